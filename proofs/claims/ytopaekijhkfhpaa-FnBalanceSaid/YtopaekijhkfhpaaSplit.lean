/-
  Sections: one that is split.
-/
import Derived.Test.YtopaekijhkfhpaaSecD
import Derived.Test.YtopaekijhkfhpaaInsC
namespace Go.Proofs.Ytopaekijhkfhpaa
open Go.RowKit

abbrev SplP (l : List Sec) (i n : Int) : Prop := HasP l i ∧ ∀ x, l[i.toNat]? = some x → 1 ≤ n ∧ n ≤ x.2.1 - 1
def splL (l : List Sec) (k : Nat) (n : Int) (s : ByteArray) : List Sec :=
  match l[k]? with
  | some x => (l.set k (x.1, n, x.2.2)).take (k + 1) ++ [(s, x.2.1 - n, x.2.2)] ++ (l.set k (x.1, n, x.2.2)).drop (k + 1)
  | none => l
theorem splL_at {l : List Sec} {k : Nat} {n : Int} {s : ByteArray} {x : Sec} (hx : l[k]? = some x) : splL l k n s = (l.set k (x.1, n, x.2.2)).take (k + 1) ++ [(s, x.2.1 - n, x.2.2)] ++ (l.set k (x.1, n, x.2.2)).drop (k + 1) := by
  unfold splL; rw [hx]
theorem splL_len {l : List Sec} {k : Nat} {n : Int} {s : ByteArray} {x : Sec} (hx : l[k]? = some x) : (splL l k n s).length = l.length + 1 := by
  have := (List.getElem?_eq_some_iff.1 hx).1
  rw [splL_at hx]; simp; omega
theorem splL_set {l : List Sec} {k : Nat} {n : Int} {s : ByteArray} {x : Sec} (hx : l[k]? = some x) : splL l k n s = (l.take (k + 1) ++ [(s, x.2.1 - n, x.2.2)] ++ l.drop (k + 1)).set k (x.1, n, x.2.2) := by
  have hk := (List.getElem?_eq_some_iff.1 hx).1
  rw [splL_at hx, List.append_assoc, List.append_assoc, List.set_append_left _ _ (by rw [List.length_take]; omega), List.take_set, List.drop_set]
  simp
theorem splL_mem {l : List Sec} {k : Nat} {n : Int} {s : ByteArray} (hz : ∀ x ∈ l, x.1.size ≤ 9223372036854775807) (hs : s.size ≤ 9223372036854775807) : ∀ x ∈ splL l k n s, x.1.size ≤ 9223372036854775807 := by
  intro y hy
  unfold splL at hy
  split at hy
  · rename_i x hx
    have hset : ∀ z ∈ l.set k (x.1, n, x.2.2), z.1.size ≤ 9223372036854775807 := by
      intro z hzz
      rcases List.mem_or_eq_of_mem_set hzz with h | h
      · exact hz z h
      · rw [h]; exact hz x (mem_of_get hx)
    rcases List.mem_append.1 hy with h | h
    · rcases List.mem_append.1 h with h | h
      · exact hset y (List.mem_of_mem_take h)
      · rw [List.mem_singleton] at h; rw [h]; exact hs
    · exact hset y (List.mem_of_mem_drop h)
  · exact hz y hy
open Classical in
noncomputable def splitF (l : List Sec) (i n : Int) (s : ByteArray) : List Sec × Bool := if SplP l i n ∧ SecsP (splL l i.toNat n s) then (splL l i.toNat n s, true) else ([], false)
theorem splitF_bad {l : List Sec} {i n : Int} {s : ByteArray} (h : ¬(SplP l i n ∧ SecsP (splL l i.toNat n s))) : splitF l i n s = ([], false) := by unfold splitF; rw [if_neg h]
theorem splitF_good {l : List Sec} {k : Nat} {n : Int} {s : ByteArray} (h : SplP l k n) (h2 : SecsP (splL l k n s)) : splitF l k n s = (splL l k n s, true) := by
  unfold splitF; rw [if_pos ⟨h, by simpa using h2⟩]; simp
theorem splitF_len (l : List Sec) (i n : Int) (s : ByteArray) : (splitF l i n s).1.length ≤ 1048576 := by
  unfold splitF
  split
  · rename_i h
    have := h.2.2.2.1.2
    dsimp only
    omega
  · simp
theorem secs_new {l : List Sec} {k : Nat} {n : Int} {s : ByteArray} {x : Sec} (hx : l[k]? = some x) (h : SecsP (splL l k n s)) : NameP s :=
  (h.1 _ (by rw [splL_at hx]; exact List.mem_append_left _ (List.mem_append_right _ (List.mem_singleton.2 rfl)))).1

set_option maxHeartbeats 4000000 in
set_option maxRecDepth 100000 in
theorem i_SplitSection (A : Option Addr) (c : Nat) (l : List Sec) (i n : Int) (s : ByteArray) (w : World) (hl : l.length ≤ 1048576) (hz : ∀ x ∈ l, x.1.size ≤ 9223372036854775807) (hA : Rd w A l) (hlc : l.length ≤ c) (hs : s.size ≤ 9223372036854775807) :
    Calls Try.prog 16 #[.slice A l.length c, .int .i64 i, .int .i64 n, .string s] w fun e w' => ∃ A c, e = .returned (.tuple #[.slice A (splitF l i n s).1.length c, .bool (splitF l i n s).2]) ∧ w'.ownsRow w.heap.size 44 3 (.slice A ((splitF l i n s).1).length c) ((splitF l i n s).1).length (flat ((splitF l i n s).1)) ∧ Gw w w' := by
  have Hz := Lib.hid hz
  clear hz
  have HA := Lib.hid hA
  obtain ⟨i0, hi, hz0, hz1, hz2⟩ := info_parts infoSection
  go_enter Try.func16, Try.ntmps16
  go_wp2_with fail
  refine (i_isSection _ _ _ _ _ hl Hz.out (hA.gw (by (repeat (first | with_reducible exact Gw.refl _ | with_reducible assumption | ((with_reducible refine Gw.set ?_ ?_ _); rotate_left; (focus (first | (simp; done) | (simp; omega) | omega))) | with_reducible refine Gw.alloc ?_ _ | with_reducible refine Gw.drew ?_ | with_reducible refine Gw.drewN ?_ _ | (refine Gw.trans ?_ (by with_reducible assumption)))))) hlc).mono ?_
  rintro _ w1 (⟨hp, rfl, hb1⟩ | ⟨hp, rfl, hb1⟩)
  case inr =>
    have hno := Lib.hid (splitF_bad (l := l) (i := i) (n := n) (s := s) (fun h => hp h.1.1))
    clear hp
    go_wp2_with fail
    go_ret2
    exact ⟨none, 0, ret_lb (A := none) (c := 0) hno.out, by rw [hno.out]; exact World.ownsRow_nil _ _ _ _, by (repeat (first | with_reducible exact Gw.refl _ | with_reducible assumption | ((with_reducible refine Gw.set ?_ ?_ _); rotate_left; (focus (first | (simp; done) | (simp; omega) | omega))) | with_reducible refine Gw.alloc ?_ _ | with_reducible refine Gw.drew ?_ | with_reducible refine Gw.drewN ?_ _ | (refine Gw.trans ?_ (by with_reducible assumption))))⟩
  have HF := Lib.hid hp
  have hf := hp.2
  clear hp
  have hl10 := HF.out.1.2.2.1.2
  obtain ⟨k, rfl⟩ : ∃ k : Nat, i = k := ⟨i.toNat, by omega⟩
  obtain ⟨x, hx⟩ := get_of_lt (l := l) (k := k) (by omega)
  have hxp := HF.out.1.1 x (mem_of_get hx)
  have hxb := hxp.2
  obtain ⟨x1, x2, x3⟩ := x
  obtain ⟨b, off, hae, hb, c0, c1, c2⟩ := (hA.gw hb1).getS hx
  subst hae
  dsimp only at c0 c1 c2 hxb
  have Hx := Lib.hid hx
  have hkl : k < l.length := by omega
  have HS : Hid (SplP l k n ↔ 1 ≤ n ∧ n ≤ x2 - 1) := by
    unfold Hid
    constructor
    · intro h; exact h.2 _ (by simpa using Hx.out)
    · intro h
      refine ⟨HF.out, fun y hy => ?_⟩
      have : some y = some (x1, x2, x3) := by rw [← Hx.out, ← hy]; simp
      rw [Option.some.inj this]
      exact h
  clear hx hxp c0 hA
  go_wp2_with fail
  refine (i_within _ _ _ _).mono ?_
  rintro _ _ (⟨hp, rfl, rfl⟩ | ⟨hp, rfl, rfl⟩)
  case inr =>
    have hno := Lib.hid (splitF_bad (l := l) (i := k) (n := n) (s := s) (fun h => hp (HS.out.1 h.1)))
    clear hp
    go_wp2_with fail
    go_ret2
    exact ⟨none, 0, ret_lb (A := none) (c := 0) hno.out, by rw [hno.out]; exact World.ownsRow_nil _ _ _ _, by (repeat (first | with_reducible exact Gw.refl _ | with_reducible assumption | ((with_reducible refine Gw.set ?_ ?_ _); rotate_left; (focus (first | (simp; done) | (simp; omega) | omega))) | with_reducible refine Gw.alloc ?_ _ | with_reducible refine Gw.drew ?_ | with_reducible refine Gw.drewN ?_ _ | (refine Gw.trans ?_ (by with_reducible assumption))))⟩
  have hn := hp
  have HN := Lib.hid hp
  clear hp
  go_wp2_with fail
  refine (i_isName _ _ hs).mono ?_
  rintro _ _ (⟨hp, rfl, rfl⟩ | ⟨hp, rfl, rfl⟩)
  case inr =>
    have hno := Lib.hid (splitF_bad (l := l) (i := k) (n := n) (s := s) (fun h => hp (secs_new Hx.out (by simpa using h.2))))
    clear hp
    go_wp2_with fail
    go_ret2
    exact ⟨none, 0, ret_lb (A := none) (c := 0) hno.out, by rw [hno.out]; exact World.ownsRow_nil _ _ _ _, by (repeat (first | with_reducible exact Gw.refl _ | with_reducible assumption | ((with_reducible refine Gw.set ?_ ?_ _); rotate_left; (focus (first | (simp; done) | (simp; omega) | omega))) | with_reducible refine Gw.alloc ?_ _ | with_reducible refine Gw.drew ?_ | with_reducible refine Gw.drewN ?_ _ | (refine Gw.trans ?_ (by with_reducible assumption))))⟩
  clear hp
  have hz1' := hb1.size
  go_wp2_with ((at_builtin; refine wpList_catAny (α := Sec) rfl (.tmp 31) (.tmp 32) 27 rfl w1.heap.size 44 i0 _ 32 Try.underlying27 hi hz0 hz1 hz2 rfl (by omega) [] (some ⟨w1.heap.size, 0, none⟩) 0 rfl l l.length rfl (some ⟨b, off, none⟩) c rfl (HA.out.gw (by (repeat (first | with_reducible exact Gw.refl _ | with_reducible assumption | ((with_reducible refine Gw.set ?_ ?_ _); rotate_left; (focus (first | (simp; done) | (simp; omega) | omega))) | with_reducible refine Gw.alloc ?_ _ | with_reducible refine Gw.drew ?_ | with_reducible refine Gw.drewN ?_ _ | (refine Gw.trans ?_ (by with_reducible assumption)))))) (World.ownsRow_made w1 #[] 0 (Nat.le_refl _) (by simp [maxLen]) (by simp)) (by simp) (by omega) (by simp) ?_; intro acc' A' c' w4 hacc' hl1 hown hgg); have he : l = acc' := (by rw [hacc'.out, List.nil_append]); subst he; have hb4 : Gw w1 w4 := hgg w1 (by (repeat (first | with_reducible exact Gw.refl _ | with_reducible assumption | ((with_reducible refine Gw.set ?_ ?_ _); rotate_left; (focus (first | (simp; done) | (simp; omega) | omega))) | with_reducible refine Gw.alloc ?_ _ | with_reducible refine Gw.drew ?_ | with_reducible refine Gw.drewN ?_ _ | (refine Gw.trans ?_ (by with_reducible assumption))))) (Nat.le_refl _); have hown : w4.ownsRow w1.heap.size 44 3 (.slice A' l.length c') l.length (flat l) := hown; clear hgg hacc' hl1; have hG4 : Gw w w4 := Gw.trans hb1 hb4; have hz4 := hb4.size; (try simp at hz4); obtain ⟨g, rfl, hbg, hg⟩ := own_addr hown (by omega); have o1 := (own_cellsS hown Hx.out).2.1; dsimp only at o1; have fz1 := World.ownsRow.frozenAt hown (k * 3 + 1))
  have r1 := own_setS1 hown Hx.out n
  dsimp only at r1
  have hG5 : Gw w (w4.setCell ⟨g, k * 3 + 1, none⟩ (.int .i64 n)) := hG4.grown r1.2 (fun k hk => by simp at hk; omega)
  have hG15 : Gw w1 (w4.setCell ⟨g, k * 3 + 1, none⟩ (.int .i64 n)) := hb4.grown r1.2 (fun k hk => by simp at hk; omega)
  have hown5 := r1.1
  clear hown r1 o1 fz1
  generalize (w4.setCell ⟨g, k * 3 + 1, none⟩ (.int .i64 n)) = w5 at *
  obtain ⟨L, hL⟩ : ∃ L, Hid (L = l.set k (x1, n, x3)) := ⟨_, rfl⟩
  rw [← hL.out] at hown5
  have hLl : Hid (L.length = l.length) := by unfold Hid; rw [hL.out, List.length_set]
  have hfin : Hid (splL l k n s = L.take (k + 1) ++ [(s, x2 - n, x3)] ++ L.drop (k + 1)) := by unfold Hid; rw [splL_at Hx.out, hL.out]
  have hks : ∀ u, Gw w1 u → (u.cell? ⟨b, off + k * 3 + 1, none⟩ = some (.int .i64 x2) ∧ u.cell? ⟨b, off + k * 3 + 2, none⟩ = some (.int .i64 x3)) := fun u hu => ⟨by rw [hu.cells _ _ hb]; exact c1, by rw [hu.cells _ _ hb]; exact c2⟩
  have Hks := Lib.hid hks
  clear hks c1 c2
  have sw1 : IntKind.i64.wrap ((k : Int) + 1) = (k : Int) + 1 := IntWalk.i64_in _ (by omega)
  have sw2 : IntKind.i64.wrap (x2 - n) = x2 - n := IntWalk.i64_in _ (by omega)
  have ek : (k : Int) + 1 = ((k + 1 : Nat) : Int) := by omega
  have Hek := Lib.hid ek
  have bk0 : (0 : Int) ≤ (k : Int) := by omega
  have bk1 : (k : Int) < (l.length : Int) := by omega
  have hbs := hb4.size
  clear ek
  have hw5 := hG15.size
  go_region_held3 (fun u => u.cell? ⟨b, off + k * 3 + 1, none⟩ = some (.int .i64 x2) ∧ u.cell? ⟨b, off + k * 3 + 2, none⟩ = some (.int .i64 x3)) (first | exact Hks.out _ (by (repeat (first | with_reducible exact Gw.refl _ | with_reducible assumption | ((with_reducible refine Gw.set ?_ ?_ _); rotate_left; (focus (first | (simp; done) | (simp; omega) | omega))) | with_reducible refine Gw.alloc ?_ _ | with_reducible refine Gw.drew ?_ | with_reducible refine Gw.drewN ?_ _ | (refine Gw.trans ?_ (by with_reducible assumption))))) | go_keep)
    (first
      | (go_at_call 50; rw [Hek.out]; refine (i_Insert w5.drew _ w1.heap.size g c' l.length (k + 1) L (s, x2 - n, x3) ⟨rfl, hLl.out, by omega, by omega, hown5.drew, by show _ ≤ w5.heap.size; omega⟩).mono ?_; rintro e w6 ⟨A6, c6, rfl, hown6, hgg6⟩; have hG16 : Gw w1 w6 := hgg6 w1 hG15.drew (Nat.le_refl _); clear hgg6)
      | fail)
  rw [← hfin.out] at hown6
  have hlen : Hid ((splL l k n s).length = l.length + 1) := splL_len Hx.out
  have hmem := Lib.hid (splL_mem (l := l) (k := k) (n := n) (s := s) Hz.out hs)
  have hG6 : Gw w w6 := Gw.trans hb1 hG16
  have hcap : l.length + 1 ≤ c6 := by
    obtain ⟨_, _, hv, hc, _⟩ := own_form hown6
    simp only [Value.slice.injEq, true_and] at hv
    obtain ⟨rfl, rfl⟩ := hv
    exact hc
  rw [← hlen.out] at hown6
  have hA6 := i_AreSections A6 c6 (splL l k n s) w6 (by rw [hlen.out]; omega) hmem.out (own_rd hown6) (by rw [hlen.out]; exact hcap)
  rw [hlen.out] at hA6
  have HA6 := Lib.hid hA6
  clear hA6
  go_wp2_with fail
  refine HA6.out.mono ?_
  rintro _ w7 (⟨hp, rfl, hb7⟩ | ⟨hp, rfl, hb7⟩)
  case inr =>
    have hno := Lib.hid (splitF_bad (l := l) (i := k) (n := n) (s := s) (fun h => hp (by simpa using h.2)))
    clear hp
    go_wp2_with fail
    go_ret2
    exact ⟨none, 0, ret_lb (A := none) (c := 0) hno.out, by rw [hno.out]; exact World.ownsRow_nil _ _ _ _, by (repeat (first | with_reducible exact Gw.refl _ | with_reducible assumption | ((with_reducible refine Gw.set ?_ ?_ _); rotate_left; (focus (first | (simp; done) | (simp; omega) | omega))) | with_reducible refine Gw.alloc ?_ _ | with_reducible refine Gw.drew ?_ | with_reducible refine Gw.drewN ?_ _ | (refine Gw.trans ?_ (by with_reducible assumption))))⟩
  have hv := Lib.hid (splitF_good (HS.out.2 HN.out) hp)
  clear hp
  have hown7 := own_gw hown6 hb7
  go_wp2_with fail
  go_ret2
  exact ⟨A6, c6, ret_lbn hv.out hlen.out, by rw [hv.out]; exact own_lower hown7 hz1', by (repeat (first | with_reducible exact Gw.refl _ | with_reducible assumption | ((with_reducible refine Gw.set ?_ ?_ _); rotate_left; (focus (first | (simp; done) | (simp; omega) | omega))) | with_reducible refine Gw.alloc ?_ _ | with_reducible refine Gw.drew ?_ | with_reducible refine Gw.drewN ?_ _ | (refine Gw.trans ?_ (by with_reducible assumption))))⟩
end Go.Proofs.Ytopaekijhkfhpaa
