/-
  Sections: one that is split, in the reference.
-/
import Derived.Test.YtopaekijhkfhpaaSplit
namespace Go.Proofs.Ytopaekijhkfhpaa
open Go.RowKit

theorem rd_new (w : World) (e : TypeId) (x : Sec) : Rd (w.alloc (.cells #[.string x.1, .int .i64 x.2.1, .int .i64 x.2.2] e)) (some ⟨w.heap.size, 0, none⟩) [x] := by
  intro _
  refine ⟨w.heap.size, 0, rfl, by simp, fun i y hy j u hu => ?_⟩
  cases i with
  | zero =>
    simp only [List.getElem?_cons_zero, Option.some.injEq] at hy
    subst hy
    rw [cell_of_row _ _ _ _ _ _ (heap_alloc_new w (.cells #[.string x.1, .int .i64 x.2.1, .int .i64 x.2.2] e))]
    have : (Flat.cells x).toArray[j]? = some u := by simpa using hu
    simpa [Flat.cells] using this
  | succ i => simp at hy

theorem rd_new2 (w : World) (o : Obj) (e : TypeId) (x : Sec) : Rd ((w.alloc o).alloc (.cells #[.string x.1, .int .i64 x.2.1, .int .i64 x.2.2] e)) (some ⟨w.heap.size + 1, 0, none⟩) [x] := by
  have := rd_new (w.alloc o) e x
  simpa using this
theorem own_made2 (w : World) (o : Obj) (e : TypeId) (size base : Nat) (hb : base ≤ w.heap.size) : ((w.alloc o).alloc (.cells #[] e)).ownsRow base e size (.slice (some ⟨w.heap.size + 1, 0, none⟩) 0 0) 0 [] := by
  have := World.ownsRow_made (base := base) (e := e) (size := size) (w.alloc o) #[] 0 (by simp; omega) (by simp [maxLen]) (by simp)
  simpa using this
theorem rd_drew {w : World} {A : Option Addr} {l : List Sec} (h : Rd w A l) : Rd w.drew A l := h.gw (Gw.refl _).drew

set_option maxHeartbeats 4000000 in
set_option maxRecDepth 100000 in
theorem s_SplitSection (A : Option Addr) (c : Nat) (l : List Sec) (i n : Int) (s : ByteArray) (w : World) (hl : l.length ≤ 1048576) (hz : ∀ x ∈ l, x.1.size ≤ 9223372036854775807) (hA : Rd w A l) (hlc : l.length ≤ c) (hs : s.size ≤ 9223372036854775807) :
    Calls Try.prog 15 #[.slice A l.length c, .int .i64 i, .int .i64 n, .string s] w fun e w' => ∃ A c, e = .returned (.tuple #[.slice A (splitF l i n s).1.length c, .bool (splitF l i n s).2]) ∧ w'.ownsRow w.heap.size 44 3 (.slice A ((splitF l i n s).1).length c) ((splitF l i n s).1).length (flat ((splitF l i n s).1)) ∧ Gw w w' := by
  have Hz := Lib.hid hz
  clear hz
  have HA := Lib.hid hA
  obtain ⟨i0, hi, hz0, hz1, hz2⟩ := info_parts infoSection
  go_enter Try.func15, Try.ntmps15
  go_wp2_with fail
  refine (s_seHas _ _ _ _ _ hl Hz.out (hA.gw (by (repeat (first | with_reducible exact Gw.refl _ | with_reducible assumption | ((with_reducible refine Gw.set ?_ ?_ _); rotate_left; (focus (first | (simp; done) | (simp; omega) | omega))) | with_reducible refine Gw.alloc ?_ _ | with_reducible refine Gw.drew ?_ | with_reducible refine Gw.drewN ?_ _ | (refine Gw.trans ?_ (by with_reducible assumption)))))) hlc).mono ?_
  rintro _ w1 (⟨hp, rfl, hb1⟩ | ⟨hp, rfl, hb1⟩)
  case inr =>
    have hno := Lib.hid (splitF_bad (l := l) (i := i) (n := n) (s := s) (fun h => hp h.1.1))
    clear hp
    go_wp2_with fail
    go_ret2
    exact ⟨none, 0, ret_lb (A := none) (c := 0) hno.out, by rw [hno.out]; exact World.ownsRow_nil _ _ _ _, by (repeat (first | with_reducible exact Gw.refl _ | with_reducible assumption | ((with_reducible refine Gw.set ?_ ?_ _); rotate_left; (focus (first | (simp; done) | (simp; omega) | omega))) | with_reducible refine Gw.alloc ?_ _ | with_reducible refine Gw.drew ?_ | with_reducible refine Gw.drewN ?_ _ | (refine Gw.trans ?_ (by with_reducible assumption))))⟩
  have HF := Lib.hid hp
  have hf := hp.2
  clear hp
  have hl10 := HF.out.1.2.2.1.2
  obtain ⟨k, rfl⟩ : ∃ k : Nat, i = k := ⟨i.toNat, by omega⟩
  obtain ⟨x, hx⟩ := get_of_lt (l := l) (k := k) (by omega)
  have hxp := HF.out.1.1 x (mem_of_get hx)
  have hxb := hxp.2
  obtain ⟨x1, x2, x3⟩ := x
  obtain ⟨b, off, hae, hb, c0, c1, c2⟩ := (hA.gw hb1).getS hx
  subst hae
  dsimp only at c0 c1 c2 hxb
  have Hx := Lib.hid hx
  have hkl : k < l.length := by omega
  have HS : Hid (SplP l k n ↔ 1 ≤ n ∧ n ≤ x2 - 1) := by
    unfold Hid
    constructor
    · intro h; exact h.2 _ (by simpa using Hx.out)
    · intro h
      refine ⟨HF.out, fun y hy => ?_⟩
      have : some y = some (x1, x2, x3) := by rw [← Hx.out, ← hy]; simp
      rw [Option.some.inj this]
      exact h
  clear hx hxp hA
  go_wp2_with fail
  refine (s_l1In _ _ _ _).mono ?_
  rintro _ _ (⟨hp, rfl, rfl⟩ | ⟨hp, rfl, rfl⟩)
  case inr =>
    have hno := Lib.hid (splitF_bad (l := l) (i := k) (n := n) (s := s) (fun h => hp (HS.out.1 h.1)))
    clear hp
    go_wp2_with fail
    go_ret2
    exact ⟨none, 0, ret_lb (A := none) (c := 0) hno.out, by rw [hno.out]; exact World.ownsRow_nil _ _ _ _, by (repeat (first | with_reducible exact Gw.refl _ | with_reducible assumption | ((with_reducible refine Gw.set ?_ ?_ _); rotate_left; (focus (first | (simp; done) | (simp; omega) | omega))) | with_reducible refine Gw.alloc ?_ _ | with_reducible refine Gw.drew ?_ | with_reducible refine Gw.drewN ?_ _ | (refine Gw.trans ?_ (by with_reducible assumption))))⟩
  have hn := hp
  have HN := Lib.hid hp
  clear hp
  have hz1' := hb1.size
  have sw2 : IntKind.i64.wrap (x2 - n) = x2 - n := IntWalk.i64_in _ (by omega)
  have hb2 : b < w1.heap.size + 1 := by omega
  have hb3 : b < w1.heap.size + 1 + 1 := by omega
  go_wp2_with fail
  have sw1 : IntKind.i64.wrap ((k : Int) + 1) = (k : Int) + 1 := IntWalk.i64_in _ (by omega)
  have tk : ((k : Int) + 1).toNat = k + 1 := by omega
  have bk0 : (0 : Int) ≤ (k : Int) + 1 := by omega
  have bk1 : (k : Int) + 1 ≤ (l.length : Int) := by omega
  have bk2 : (k : Int) + 1 ≤ (c : Int) := by omega
  have bk3 : (l.length : Int) ≤ (c : Int) := by omega
  have hbx : ∀ j v, (#[Value.string s, Value.int .i64 (x2 - n), Value.int .i64 x3] : Array Value)[j]? = some v → (w1.alloc (.cells #[Value.string s, Value.int .i64 (x2 - n), Value.int .i64 x3] 44)).cell? ⟨w1.heap.size, j, none⟩ = some v := fun j v hj => box_cell (Gw.refl _) hj
  have hb0 := hbx 0 _ rfl
  have hb1' := hbx 1 _ rfl
  have hb2' := hbx 2 _ rfl
  have hBG : Gw w1 (w1.alloc (.cells #[Value.string s, Value.int .i64 (x2 - n), Value.int .i64 x3] 44)) := (Gw.refl _).alloc _
  have hBz : w1.heap.size < (w1.alloc (.cells #[Value.string s, Value.int .i64 (x2 - n), Value.int .i64 x3] 44)).heap.size := by simp
  clear hbx c0 c1 c2
  generalize (w1.alloc (.cells #[Value.string s, Value.int .i64 (x2 - n), Value.int .i64 x3] 44)) = B at *
  have hGB : Gw w B := Gw.trans hb1 hBG
  have hks : ∀ u, Gw B u → (Gw B u ∧ u.cell? ⟨w1.heap.size, 0, none⟩ = some (.string s) ∧ u.cell? ⟨w1.heap.size, 1, none⟩ = some (.int .i64 (x2 - n)) ∧ u.cell? ⟨w1.heap.size, 2, none⟩ = some (.int .i64 x3)) := fun u hu => ⟨hu, by rw [hu.cells _ _ hBz]; exact hb0, by rw [hu.cells _ _ hBz]; exact hb1', by rw [hu.cells _ _ hBz]; exact hb2'⟩
  have Hks := Lib.hid hks
  have hrd : Rd B (some ⟨b, off, none⟩) l := HA.out.gw hGB
  have hrt := Lib.hid (hrd.take (k + 1))
  have hlt : Hid ((l.take (k + 1)).length = k + 1) := by unfold Hid; rw [List.length_take]; omega
  have hld : Hid ((l.drop (k + 1)).length = l.length - (k + 1)) := by unfold Hid; rw [List.length_drop]
  have hN : Hid (k + 1 + 1 + (l.length - (k + 1)) = l.length + 1) := by unfold Hid; omega
  obtain ⟨M, hM⟩ : ∃ M, Hid (M = l.take (k + 1) ++ [(s, x2 - n, x3)] ++ l.drop (k + 1)) := ⟨_, rfl⟩
  have hMl : Hid (M.length = l.length + 1) := by unfold Hid; rw [hM.out]; simp; omega
  have hMk : Hid (M[k]? = some (x1, x2, x3)) := by unfold Hid; rw [hM.out, List.append_assoc, List.getElem?_append_left (by rw [hlt.out]; omega), List.getElem?_take_of_lt (by omega)]; exact Hx.out
  have hfin : Hid (splL l k n s = M.set k (x1, n, x3)) := by unfold Hid; rw [splL_set Hx.out, hM.out]
  have hlen : Hid ((splL l k n s).length = l.length + 1) := splL_len Hx.out
  have hmem := Lib.hid (splL_mem (l := l) (k := k) (n := n) (s := s) Hz.out hs)
  have hGBz := hGB.size
  clear hks hb0 hb1' hb2' hBG hBz hb2 hb3
  by_cases hcap : c = k + 1
  · have hrn : Hid (∀ X, Rd B X (l.drop (k + 1))) := fun X => by rw [List.drop_of_length_le (by omega)]; exact Rd.nil
    have hld0 : Hid ((l.drop (k + 1)).length = 0) := by unfold Hid; rw [hld.out]; omega
    have hN0 : Hid (k + 1 + 1 + 0 = l.length + 1) := by unfold Hid; omega
    subst hcap
    go_region_held3 (fun u => Gw B u ∧ u.cell? ⟨w1.heap.size, 0, none⟩ = some (.string s) ∧ u.cell? ⟨w1.heap.size, 1, none⟩ = some (.int .i64 (x2 - n)) ∧ u.cell? ⟨w1.heap.size, 2, none⟩ = some (.int .i64 x3)) (first | exact Hks.out _ (by (repeat (first | with_reducible exact Gw.refl _ | with_reducible assumption | ((with_reducible refine Gw.set ?_ ?_ _); rotate_left; (focus (first | (simp; done) | (simp; omega) | omega))) | with_reducible refine Gw.alloc ?_ _ | with_reducible refine Gw.drew ?_ | with_reducible refine Gw.drewN ?_ _ | (refine Gw.trans ?_ (by with_reducible assumption))))) | go_keep)
      (first
        | (refine step_cat (α := Sec) rfl (.tmp 41) (.tmp 45) 27 (by rfl) B.heap.size 44 i0 _ 32 Try.underlying27 hi hz0 hz1 hz2 rfl (by omega) [] 0 rfl _ 0 (by rfl) (l.take (k + 1)) (k + 1) hlt.out _ _ (by rfl) (hrt.out.gw (by (repeat (first | with_reducible exact Gw.refl _ | with_reducible assumption | ((with_reducible refine Gw.set ?_ ?_ _); rotate_left; (focus (first | (simp; done) | (simp; omega) | omega))) | with_reducible refine Gw.alloc ?_ _ | with_reducible refine Gw.drew ?_ | with_reducible refine Gw.drewN ?_ _ | (refine Gw.trans ?_ (by with_reducible assumption)))))) (by first | exact (World.ownsRow_made B #[] 0 (Nat.le_refl _) (by simp [maxLen]) (by simp)).drew | exact ((World.ownsRow_made B #[] 0 (Nat.le_refl _) (by simp [maxLen]) (by simp)).alloc _).drew | exact (own_made2 B _ _ 3 _ (Nat.le_refl _)).drew) (by omega) (by omega) (by first | (simp; done) | (simp; omega)) ?_; intro A7 c7 w7 hown7 hgg7 hgr7; have hgw7 : Gw B w7 := hgg7 B (by (repeat (first | with_reducible exact Gw.refl _ | with_reducible assumption | ((with_reducible refine Gw.set ?_ ?_ _); rotate_left; (focus (first | (simp; done) | (simp; omega) | omega))) | with_reducible refine Gw.alloc ?_ _ | with_reducible refine Gw.drew ?_ | with_reducible refine Gw.drewN ?_ _ | (refine Gw.trans ?_ (by with_reducible assumption))))) (Nat.le_refl _); clear hgg7; simp only [List.nil_append, Nat.zero_add] at hown7; rw [show (0 + (k + 1) : Nat) = k + 1 from Nat.zero_add _])
        | (refine step_cat (α := Sec) rfl (.tmp 46) (.tmp 48) 27 (by rfl) B.heap.size 44 i0 _ 32 Try.underlying27 hi hz0 hz1 hz2 rfl (by omega) (l.take (k + 1)) (k + 1) hlt.out _ _ (by rfl) [(s, x2 - n, x3)] 1 rfl _ 1 (by rfl) (by first | exact rd_new w7 _ (s, x2 - n, x3) | exact (rd_drew (rd_new2 B _ _ (s, x2 - n, x3))).keep hgr7 (fun b' off' h => by simp only [Option.some.injEq, Addr.mk.injEq, and_true] at h; obtain ⟨rfl, _⟩ := h; simp [Value.ownBlock]) | exact (rd_drew ((rd_new B _ (s, x2 - n, x3)).gw ((Gw.refl _).alloc _))).keep hgr7 (fun b' off' h => by simp only [Option.some.injEq, Addr.mk.injEq, and_true] at h; obtain ⟨rfl, _⟩ := h; simp [Value.ownBlock])) (by first | exact hown7 | exact hown7.alloc _) (by omega) (by omega) (Gw.size (by (repeat (first | with_reducible exact Gw.refl _ | with_reducible assumption | ((with_reducible refine Gw.set ?_ ?_ _); rotate_left; (focus (first | (simp; done) | (simp; omega) | omega))) | with_reducible refine Gw.alloc ?_ _ | with_reducible refine Gw.drew ?_ | with_reducible refine Gw.drewN ?_ _ | (refine Gw.trans ?_ (by with_reducible assumption)))))) ?_; intro A8 c8 w8 hown8 hgg8 hgr8; have hgw8 : Gw B w8 := hgg8 B (by (repeat (first | with_reducible exact Gw.refl _ | with_reducible assumption | ((with_reducible refine Gw.set ?_ ?_ _); rotate_left; (focus (first | (simp; done) | (simp; omega) | omega))) | with_reducible refine Gw.alloc ?_ _ | with_reducible refine Gw.drew ?_ | with_reducible refine Gw.drewN ?_ _ | (refine Gw.trans ?_ (by with_reducible assumption))))) (Nat.le_refl _); clear hgg8 hgr8)
        | (refine step_cat (α := Sec) rfl (.tmp 49) (.tmp 53) 27 (by rfl) B.heap.size 44 i0 _ 32 Try.underlying27 hi hz0 hz1 hz2 rfl (by omega) (l.take (k + 1) ++ [(s, x2 - n, x3)]) (k + 1 + 1) (by rw [List.length_append, hlt.out]; rfl) _ _ (by rfl) (l.drop (k + 1)) 0 hld0.out _ _ (by rfl) ((hrn.out _).gw (by assumption)) (by assumption) (by omega) (by omega) (Gw.size (by assumption)) ?_; intro A9 c9 w9 hown9 hgg9 hgr9; have hgw9 : Gw B w9 := hgg9 B (by assumption) (Nat.le_refl _); clear hgg9 hgr9)
        | fail)
    all_goals
      rw [hN0.out] at hown9 ⊢
      rw [← hM.out] at hown9
      clear hown7 hown8 hgr7
      obtain ⟨g, rfl, hbg, hg⟩ := own_addr hown9 (by omega)
      have o1 := (own_cellsN hown9 hMl.out hMk.out).2.1
      dsimp only at o1
      have fz1 := World.ownsRow.frozenAt hown9 (k * 3 + 1)
      have r1 := own_setS1 hown9 hMk.out n
      dsimp only at r1
      rw [← hfin.out] at r1
      have hG9 : Gw w w9 := Gw.trans hGB hgw9
      have hG10 : Gw w (w9.setCell ⟨g, k * 3 + 1, none⟩ (.int .i64 n)) := hG9.grown r1.2 (fun k hk => by simp at hk; omega)
      have hown10 := r1.1
      have hcap9 : l.length + 1 ≤ c9 := by
        obtain ⟨_, _, hv, hc, _⟩ := own_form hown10
        simp only [Value.slice.injEq, true_and] at hv
        obtain ⟨rfl, rfl⟩ := hv
        exact hc
      rw [← hlen.out] at hown10
      have hA6 := s_seGood (some ⟨g, 0, none⟩) c9 (splL l k n s) (w9.setCell ⟨g, k * 3 + 1, none⟩ (.int .i64 n)) (by rw [hlen.out]; omega) hmem.out (own_rd hown10)
      rw [hlen.out] at hA6
      have HA6 := Lib.hid hA6
      have Hr1 := Lib.hid r1
      have Hown10 := Lib.hid hown10
      clear hA6 r1 hown10
      go_wp2_with fail
      refine HA6.out.mono ?_
      rintro _ w11 (⟨hp, rfl, hb11⟩ | ⟨hp, rfl, hb11⟩)
      case inr =>
        have hno := Lib.hid (splitF_bad (l := l) (i := k) (n := n) (s := s) (fun h => hp (by simpa using h.2)))
        clear hp
        go_wp2_with fail
        go_ret2
        exact ⟨none, 0, ret_lb (A := none) (c := 0) hno.out, by rw [hno.out]; exact World.ownsRow_nil _ _ _ _, Gw.trans hG10 hb11⟩
      have hv := Lib.hid (splitF_good (HS.out.2 HN.out) hp)
      clear hp
      have hown11 := own_gw Hown10.out hb11
      go_wp2_with fail
      go_ret2
      exact ⟨some ⟨g, 0, none⟩, c9, ret_lbn hv.out hlen.out, by rw [hv.out]; exact own_lower hown11 hGBz, Gw.trans hG10 hb11⟩
  · have hrdd : Hid (Rd B (some ⟨b, off + (k + 1) * 3, none⟩) (l.drop (k + 1))) := hrd.drop (k + 1)
    go_region_held3 (fun u => Gw B u ∧ u.cell? ⟨w1.heap.size, 0, none⟩ = some (.string s) ∧ u.cell? ⟨w1.heap.size, 1, none⟩ = some (.int .i64 (x2 - n)) ∧ u.cell? ⟨w1.heap.size, 2, none⟩ = some (.int .i64 x3)) (first | exact Hks.out _ (by (repeat (first | with_reducible exact Gw.refl _ | with_reducible assumption | ((with_reducible refine Gw.set ?_ ?_ _); rotate_left; (focus (first | (simp; done) | (simp; omega) | omega))) | with_reducible refine Gw.alloc ?_ _ | with_reducible refine Gw.drew ?_ | with_reducible refine Gw.drewN ?_ _ | (refine Gw.trans ?_ (by with_reducible assumption))))) | go_keep)
      (first
        | (refine step_cat (α := Sec) rfl (.tmp 41) (.tmp 45) 27 (by rfl) B.heap.size 44 i0 _ 32 Try.underlying27 hi hz0 hz1 hz2 rfl (by omega) [] 0 rfl _ 0 (by rfl) (l.take (k + 1)) (k + 1) hlt.out _ _ (by rfl) (hrt.out.gw (by (repeat (first | with_reducible exact Gw.refl _ | with_reducible assumption | ((with_reducible refine Gw.set ?_ ?_ _); rotate_left; (focus (first | (simp; done) | (simp; omega) | omega))) | with_reducible refine Gw.alloc ?_ _ | with_reducible refine Gw.drew ?_ | with_reducible refine Gw.drewN ?_ _ | (refine Gw.trans ?_ (by with_reducible assumption)))))) (by first | exact (World.ownsRow_made B #[] 0 (Nat.le_refl _) (by simp [maxLen]) (by simp)).drew | exact ((World.ownsRow_made B #[] 0 (Nat.le_refl _) (by simp [maxLen]) (by simp)).alloc _).drew | exact (own_made2 B _ _ 3 _ (Nat.le_refl _)).drew) (by omega) (by omega) (by first | (simp; done) | (simp; omega)) ?_; intro A7 c7 w7 hown7 hgg7 hgr7; have hgw7 : Gw B w7 := hgg7 B (by (repeat (first | with_reducible exact Gw.refl _ | with_reducible assumption | ((with_reducible refine Gw.set ?_ ?_ _); rotate_left; (focus (first | (simp; done) | (simp; omega) | omega))) | with_reducible refine Gw.alloc ?_ _ | with_reducible refine Gw.drew ?_ | with_reducible refine Gw.drewN ?_ _ | (refine Gw.trans ?_ (by with_reducible assumption))))) (Nat.le_refl _); clear hgg7; simp only [List.nil_append, Nat.zero_add] at hown7; rw [show (0 + (k + 1) : Nat) = k + 1 from Nat.zero_add _])
        | (refine step_cat (α := Sec) rfl (.tmp 46) (.tmp 48) 27 (by rfl) B.heap.size 44 i0 _ 32 Try.underlying27 hi hz0 hz1 hz2 rfl (by omega) (l.take (k + 1)) (k + 1) hlt.out _ _ (by rfl) [(s, x2 - n, x3)] 1 rfl _ 1 (by rfl) (by first | exact rd_new w7 _ (s, x2 - n, x3) | exact (rd_drew (rd_new2 B _ _ (s, x2 - n, x3))).keep hgr7 (fun b' off' h => by simp only [Option.some.injEq, Addr.mk.injEq, and_true] at h; obtain ⟨rfl, _⟩ := h; simp [Value.ownBlock]) | exact (rd_drew ((rd_new B _ (s, x2 - n, x3)).gw ((Gw.refl _).alloc _))).keep hgr7 (fun b' off' h => by simp only [Option.some.injEq, Addr.mk.injEq, and_true] at h; obtain ⟨rfl, _⟩ := h; simp [Value.ownBlock])) (by first | exact hown7 | exact hown7.alloc _) (by omega) (by omega) (Gw.size (by (repeat (first | with_reducible exact Gw.refl _ | with_reducible assumption | ((with_reducible refine Gw.set ?_ ?_ _); rotate_left; (focus (first | (simp; done) | (simp; omega) | omega))) | with_reducible refine Gw.alloc ?_ _ | with_reducible refine Gw.drew ?_ | with_reducible refine Gw.drewN ?_ _ | (refine Gw.trans ?_ (by with_reducible assumption)))))) ?_; intro A8 c8 w8 hown8 hgg8 hgr8; have hgw8 : Gw B w8 := hgg8 B (by (repeat (first | with_reducible exact Gw.refl _ | with_reducible assumption | ((with_reducible refine Gw.set ?_ ?_ _); rotate_left; (focus (first | (simp; done) | (simp; omega) | omega))) | with_reducible refine Gw.alloc ?_ _ | with_reducible refine Gw.drew ?_ | with_reducible refine Gw.drewN ?_ _ | (refine Gw.trans ?_ (by with_reducible assumption))))) (Nat.le_refl _); clear hgg8 hgr8)
        | (refine step_cat (α := Sec) rfl (.tmp 49) (.tmp 53) 27 (by rfl) B.heap.size 44 i0 _ 32 Try.underlying27 hi hz0 hz1 hz2 rfl (by omega) (l.take (k + 1) ++ [(s, x2 - n, x3)]) (k + 1 + 1) (by rw [List.length_append, hlt.out]; rfl) _ _ (by rfl) (l.drop (k + 1)) (l.length - (k + 1)) hld.out _ _ (by rfl) ((hrdd.out).gw (by assumption)) (by assumption) (by omega) (by omega) (Gw.size (by assumption)) ?_; intro A9 c9 w9 hown9 hgg9 hgr9; have hgw9 : Gw B w9 := hgg9 B (by assumption) (Nat.le_refl _); clear hgg9 hgr9)
        | fail)
    all_goals
      rw [hN.out] at hown9 ⊢
      rw [← hM.out] at hown9
      clear hown7 hown8 hgr7
      obtain ⟨g, rfl, hbg, hg⟩ := own_addr hown9 (by omega)
      have o1 := (own_cellsN hown9 hMl.out hMk.out).2.1
      dsimp only at o1
      have fz1 := World.ownsRow.frozenAt hown9 (k * 3 + 1)
      have r1 := own_setS1 hown9 hMk.out n
      dsimp only at r1
      rw [← hfin.out] at r1
      have hG9 : Gw w w9 := Gw.trans hGB hgw9
      have hG10 : Gw w (w9.setCell ⟨g, k * 3 + 1, none⟩ (.int .i64 n)) := hG9.grown r1.2 (fun k hk => by simp at hk; omega)
      have hown10 := r1.1
      have hcap9 : l.length + 1 ≤ c9 := by
        obtain ⟨_, _, hv, hc, _⟩ := own_form hown10
        simp only [Value.slice.injEq, true_and] at hv
        obtain ⟨rfl, rfl⟩ := hv
        exact hc
      rw [← hlen.out] at hown10
      have hA6 := s_seGood (some ⟨g, 0, none⟩) c9 (splL l k n s) (w9.setCell ⟨g, k * 3 + 1, none⟩ (.int .i64 n)) (by rw [hlen.out]; omega) hmem.out (own_rd hown10)
      rw [hlen.out] at hA6
      have HA6 := Lib.hid hA6
      have Hr1 := Lib.hid r1
      have Hown10 := Lib.hid hown10
      clear hA6 r1 hown10
      go_wp2_with fail
      refine HA6.out.mono ?_
      rintro _ w11 (⟨hp, rfl, hb11⟩ | ⟨hp, rfl, hb11⟩)
      case inr =>
        have hno := Lib.hid (splitF_bad (l := l) (i := k) (n := n) (s := s) (fun h => hp (by simpa using h.2)))
        clear hp
        go_wp2_with fail
        go_ret2
        exact ⟨none, 0, ret_lb (A := none) (c := 0) hno.out, by rw [hno.out]; exact World.ownsRow_nil _ _ _ _, Gw.trans hG10 hb11⟩
      have hv := Lib.hid (splitF_good (HS.out.2 HN.out) hp)
      clear hp
      have hown11 := own_gw Hown10.out hb11
      go_wp2_with fail
      go_ret2
      exact ⟨some ⟨g, 0, none⟩, c9, ret_lbn hv.out hlen.out, by rw [hv.out]; exact own_lower hown11 hGBz, Gw.trans hG10 hb11⟩
end Go.Proofs.Ytopaekijhkfhpaa
