/-
  slices.Insert of one section into a list of the call's own.
-/
import Derived.Test.YtopaekijhkfhpaaDel
import Derived.Test.YtopaekijhkfhpaaSec
import Derived.Lib.Overlaps
import Derived.Lib.AppendZerosOnto
import Derived.Stop.Walk2
namespace Go.Proofs.Ytopaekijhkfhpaa
open Go.RowKit

section
variable {P : Program}
theorem run_copyS (w : World) (dT sT ty elem : TypeId) (size b o dLen dCap : Nat) (ad : Addr) (sLen sCap : Nat) (cs : List Value)
    (hu : P.underlying dT = some (.slice elem)) (hs : (P.info? elem).map (·.size) = some size) (hn : cs.length = Nat.min sLen dLen * size)
    (hsrc : ∀ j v, cs[j]? = some v → w.cell? (ad.add j) = some v) (hc : ∀ j, j < cs.length → (w.cell? ⟨b, o + j, none⟩).isSome = true) (hf : ∀ j, j < cs.length → w.frozen? ⟨b, o + j, none⟩ = false) (h1 : ∀ v ∈ cs, v.oneCell' = true) :
    (Builtin.copy_ #[dT, sT] ty #[.slice (some ⟨b, o, none⟩) dLen dCap, .slice (some ad) sLen sCap]).run P w = .ok (goInt (Nat.min sLen dLen)) (w.setCells b o cs) := by
  have hl := run_loadCells_list (P := P) w ad cs hsrc
  have hst := run_storeCells_cells (P := P) b o cs 0 w (by simpa using hc) (by simpa using hf) h1
  cases hq : P.info? elem with
  | none => simp [hq] at hs
  | some i =>
    have hi : i.size = size := by simpa [hq] using hs
    simp only [Nat.add_zero] at hst
    simp [Builtin.copy_, run_underlying hu, Builtin.lenOf, Builtin.firstCells, sizeOf, typeInfo, hq, hi, ← hn, hl, hst]
theorem wp_copyS (w : World) {o : Oper} {a : Act} {K : Act → World → Prop} {Q : Exit → Act → World → Prop} (d s : Operand) (t t' : TypeId)
    (ho : o.op = .call { callee := .builtin .copy, args := #[d, s], argTypes := #[t, t'] }) (v u : Value) (hd : a.eval d = v) (hs : a.eval s = u) {v' : Value} {w' : World}
    (hr : (Builtin.copy_ #[t, t'] o.type #[v, u]).run P w = .ok v' w') (h : K (a.put o.dst v') w') : o.wp P a w K Q := by
  unfold Oper.wp execOp
  simp only [ho, resolve, invoke, builtin, Sem.run_bind, Sem.run_pure, Result.andThen_ok, List.map_toArray, List.map_cons, List.map_nil, hd, hs, hr]
  exact h
theorem wpList_copyS (w : World) {ops : Array Oper} {rest : List Oper} {o : Oper} {a : Act} {Q : Exit → Act → World → Prop} (hgd : o.guard = none) (d s : Operand) (t t' : TypeId)
    (ho : o.op = .call { callee := .builtin .copy, args := #[d, s], argTypes := #[t, t'] }) (v u : Value) (hd : a.eval d = v) (hs : a.eval s = u) {v' : Value} {w' : World}
    (hr : (Builtin.copy_ #[t, t'] o.type #[v, u]).run P w = .ok v' w') (h : wpList P ops Q rest (a.put o.dst v') w') : wpList P ops Q (o :: rest) a w :=
  wpList_plain hgd fun _ hK => wp_copyS w d s t t' ho v u hd hs hr (hK _ _ h)
theorem step_copyS {ops : Array Oper} {o : Oper} {a : Act} {w : World} {K : Act → World → Prop} {Q : Exit → Act → World → Prop} {E : Prop}
    (hg : o.guard = none) (d x : Operand) (dT sT : TypeId) (hop : o.op = Op.call { callee := Callee.builtin Builtin.copy, args := #[d, x], argTypes := #[dT, sT] })
    (v u : Value) (hd : a.eval d = v) (hx : a.eval x = u) {v' : Value} {w' : World} (hr : (Builtin.copy_ #[dT, sT] o.type #[v, u]).run P w = .ok v' w') (hK : K (a.put o.dst v') w') :
    if Region.wanted o (yielded ops a.tmps) = true then Oper.wp P o a w K Q else E := by
  have hw : Region.wanted o (yielded ops a.tmps) = true := by simp [Region.wanted, hg]
  rw [if_pos hw]
  exact wp_copyS w d x dT sT hop v u hd hx hr hK
end

theorem drewS (b : Nat) : ∀ (vs : List Value) (o : Nat) (w : World), (w.setCells b o vs).drew = w.drew.setCells b o vs
  | [], _, _ => rfl
  | v :: r, o, w => by rw [World.setCells, World.setCells, drewS b r]; rfl
/-- An owned row seen with its spare cells. -/
theorem own_widen {w : World} {base : Nat} {e : TypeId} {size n m c g : Nat} {xs : List Value} (h : w.ownsRow base e size (.slice (some ⟨g, 0, none⟩) n c) n xs) (hm : n ≤ m) (hc : m ≤ c) :
    ∃ ys, ys.length = (m - n) * size ∧ w.ownsRow base e size (.slice (some ⟨g, 0, none⟩) m c) m (xs ++ ys) := by
  rcases h.2 with ⟨hv, _⟩ | ⟨g', cap, cur, hv, hb, hg, hnc, hm', hs, ht⟩
  · cases hv
  · simp only [Value.slice.injEq, Option.some.injEq, Addr.mk.injEq, and_true, true_and] at hv
    obtain ⟨rfl, rfl⟩ := hv
    have h1 : n * size ≤ m * size := Nat.mul_le_mul_right _ hm
    have h2 : m * size ≤ c * size := Nat.mul_le_mul_right _ hc
    have e0 : (cur.toList.take (m * size)).take (n * size) = xs := by rw [List.take_take, Nat.min_eq_left h1]; exact ht
    have e1 : xs ++ (cur.toList.take (m * size)).drop (n * size) = cur.toList.take (m * size) := by
      rw [← e0]; exact List.take_append_drop _ _
    have e3 : (m - n) * size = m * size - n * size := Nat.sub_mul _ _ _
    refine ⟨(cur.toList.take (m * size)).drop (n * size), by rw [List.length_drop, List.length_take, Array.length_toList, hs, e3]; omega, ?_, .inr ⟨g, c, cur, rfl, hb, hg, hc, hm', hs, e1.symm⟩⟩
    rw [e1, List.length_take, Array.length_toList, hs]
    omega
/-- A row just made. -/
theorem own_alloc (w : World) {base : Nat} {e : TypeId} {size n c : Nat} (cur : Array Value) (hb : base ≤ w.heap.size) (hs : cur.size = c * size) (hn : n ≤ c) (hc : c ≤ maxLen) :
    (w.alloc (.cells cur e)).ownsRow base e size (.slice (some ⟨w.heap.size, 0, none⟩) n c) n (cur.toList.take (n * size)) := by
  refine ⟨?_, .inr ⟨w.heap.size, c, cur, rfl, hb, heap_alloc_new w _, hn, hc, hs, rfl⟩⟩
  have := Nat.mul_le_mul_right size hn
  rw [List.length_take, Array.length_toList, hs]
  omega
theorem own_shape {w : World} {base : Nat} {e : TypeId} {size n c g : Nat} {xs : List Value} (h : w.ownsRow base e size (.slice (some ⟨g, 0, none⟩) n c) n xs) : w.shape? g = some (e, c * size) := by
  rcases h.2 with ⟨hv, _⟩ | ⟨g', cap, cur, hv, hb, hg, hnc, hm', hs, ht⟩
  · cases hv
  · simp only [Value.slice.injEq, Option.some.injEq, Addr.mk.injEq, and_true, true_and] at hv
    obtain ⟨rfl, rfl⟩ := hv
    unfold World.shape?
    rw [hg]
    simp [hs]

theorem ins_room {X Y C : List Value} {a : Nat} (ha : a ≤ X.length) (hY : Y.length = C.length) :
    (((X ++ Y).take (a + C.length) ++ X.drop a ++ (X ++ Y).drop (a + C.length + (X.drop a).length)).take a ++ C ++ ((X ++ Y).take (a + C.length) ++ X.drop a ++ (X ++ Y).drop (a + C.length + (X.drop a).length)).drop (a + C.length)) = X.take a ++ C ++ X.drop a := by
  have hl : ((X ++ Y).take (a + C.length)).length = a + C.length := by rw [List.length_take, List.length_append]; omega
  have e0 : (X ++ Y).drop (a + C.length + (X.drop a).length) = [] := List.drop_of_length_le (by rw [List.length_append, List.length_drop]; omega)
  rw [e0, List.append_nil]
  have e1 : ((X ++ Y).take (a + C.length) ++ X.drop a).take a = X.take a := by
    rw [List.take_append_of_le_length (by omega), List.take_take, Nat.min_eq_left (by omega), List.take_append_of_le_length ha]
  have e2 : ((X ++ Y).take (a + C.length) ++ X.drop a).drop (a + C.length) = X.drop a := by
    have := List.drop_left (l₁ := (X ++ Y).take (a + C.length)) (l₂ := X.drop a)
    rw [hl] at this
    exact this
  rw [e1, e2]
theorem ins_grow {X Z C : List Value} {a : Nat} (ha : a ≤ X.length) (hZ : a + Z.length = X.length + C.length) :
    ((X.take a ++ Z).take a ++ C ++ (X.take a ++ Z).drop (a + C.length)).take (a + C.length) ++ X.drop a ++ ((X.take a ++ Z).take a ++ C ++ (X.take a ++ Z).drop (a + C.length)).drop (a + C.length + (X.drop a).length) = X.take a ++ C ++ X.drop a := by
  have hl : (X.take a).length = a := by rw [List.length_take]; omega
  have e0 : (X.take a ++ Z).take a = X.take a := by
    have := List.take_left (l₁ := X.take a) (l₂ := Z)
    rw [hl] at this
    exact this
  rw [e0]
  have hl2 : (X.take a ++ C).length = a + C.length := by rw [List.length_append, hl]
  have e1 : (X.take a ++ C ++ (X.take a ++ Z).drop (a + C.length)).take (a + C.length) = X.take a ++ C := by
    have := List.take_left (l₁ := X.take a ++ C) (l₂ := (X.take a ++ Z).drop (a + C.length))
    rw [hl2] at this
    exact this
  have e2 : (X.take a ++ C ++ (X.take a ++ Z).drop (a + C.length)).drop (a + C.length + (X.drop a).length) = [] :=
    List.drop_of_length_le (by simp only [List.length_append, List.length_drop, hl]; omega)
  rw [e1, e2, List.append_nil]
theorem flat_ins {α : Type} [Flat α] (L : List α) (k : Nat) (x : α) (hk : k ≤ L.length) : (flat L).take (k * Flat.sz α) ++ Flat.cells x ++ (flat L).drop (k * Flat.sz α) = flat (L.take k ++ [x] ++ L.drop k) := by
  have e1 : flat L = flat (L.take k) ++ flat (L.drop k) := by rw [← flat_append, List.take_append_drop]
  have e2 : (flat (L.take k)).length = k * Flat.sz α := by rw [flat_len, List.length_take]; congr 1; omega
  rw [flat_append, flat_append, flat_one]
  congr 1
  · congr 1
    exact flat_take L k
  · rw [e1, ← e2, List.drop_left]

/-- The new element's block beside the row. -/
structure InsAt (w0 w : World) (base g c n k : Nat) (L : List Sec) (x : Sec) : Prop where
  hw : w = w0.alloc (.cells (Flat.cells x).toArray 44)
  hL : L.length = n
  hk : k ≤ n
  hn : n ≤ 1048576
  own : w0.ownsRow base 44 3 (.slice (some ⟨g, 0, none⟩) n c) n (flat L)
  hb : base ≤ w0.heap.size
def InsQ (w0 : World) (base n k : Nat) (L : List Sec) (x : Sec) (e : Ending) (w' : World) : Prop :=
  ∃ A' c', e = .returned (.slice A' (n + 1) c') ∧ w'.ownsRow base 44 3 (.slice A' (n + 1) c') (n + 1) (flat (L.take k ++ [x] ++ L.drop k)) ∧ (∀ u, Gw u w0 → u.heap.size ≤ base → Gw u w')
theorem InsAt.own1 {w0 w : World} {base g c n k : Nat} {L : List Sec} {x : Sec} (h : InsAt w0 w base g c n k L x) : w.ownsRow base 44 3 (.slice (some ⟨g, 0, none⟩) n c) n (flat L) := by
  rw [h.hw]; exact h.own.alloc _
theorem InsAt.cap {w0 w : World} {base g c n k : Nat} {L : List Sec} {x : Sec} (h : InsAt w0 w base g c n k L x) : n ≤ c ∧ c ≤ 9223372036854775807 := by
  obtain ⟨_, _, hv, hc, hc2, _⟩ := own_form h.own
  simp only [Value.slice.injEq, true_and] at hv
  obtain ⟨rfl, rfl⟩ := hv
  unfold maxLen at hc2
  omega
theorem InsAt.g_lt {w0 w : World} {base g c n k : Nat} {L : List Sec} {x : Sec} (h : InsAt w0 w base g c n k L x) : base ≤ g ∧ g < w0.heap.size := h.own.lt g rfl
theorem InsAt.gw {w0 w : World} {base g c n k : Nat} {L : List Sec} {x : Sec} (h : InsAt w0 w base g c n k L x) : Gw w0 w := by rw [h.hw]; exact (Gw.refl _).alloc _
theorem InsAt.cells {w0 w : World} {base g c n k : Nat} {L : List Sec} {x : Sec} (h : InsAt w0 w base g c n k L x) : ∀ j v, (Flat.cells x)[j]? = some v → w.cell? ((⟨w0.heap.size, 0, none⟩ : Addr).add j) = some v := by
  intro j u hu
  have hadd : (⟨w0.heap.size, 0, none⟩ : Addr).add j = ⟨w0.heap.size, j, none⟩ := by unfold Addr.add; split <;> simp_all
  rw [hadd, h.hw, cell_of_row _ _ _ _ _ _ (heap_alloc_new w0 (.cells (Flat.cells x).toArray _))]
  simpa using hu
theorem InsAt.rd {w0 w : World} {base g c n k : Nat} {L : List Sec} {x : Sec} (h : InsAt w0 w base g c n k L x) : Rd w (some ⟨w0.heap.size, 0, none⟩) [x] := by
  intro _
  refine ⟨w0.heap.size, 0, rfl, by rw [h.hw]; simp, fun i y hy j u hu => ?_⟩
  cases i with
  | zero =>
    simp only [List.getElem?_cons_zero, Option.some.injEq] at hy
    subst hy
    have := h.cells j u hu
    have hadd : (⟨w0.heap.size, 0, none⟩ : Addr).add j = ⟨w0.heap.size, j, none⟩ := by unfold Addr.add; split <;> simp_all
    rw [hadd] at this
    simpa using this
  | succ i => simp at hy

set_option maxHeartbeats 4000000 in
set_option maxRecDepth 100000 in
theorem i_Insert_end (w0 w : World) (base g c n : Nat) (L : List Sec) (x : Sec) (h : InsAt w0 w base g c n n L x) :
    Calls Try.prog 50 #[.slice (some ⟨g, 0, none⟩) n c, .int .i64 n, .slice (some ⟨w0.heap.size, 0, none⟩) 1 1] w (InsQ w0 base n n L x) := by
  obtain ⟨i0, hi, hz0, hz1, hz2⟩ := info_parts infoSection
  obtain ⟨hc1, hc2⟩ := h.cap
  have HL := Lib.hid h.hL
  have hn := h.hn
  have hsz := Lib.hid (show w.heap.size = w0.heap.size + 1 by rw [h.hw]; simp)
  by_cases hcn : c = n
  all_goals
    go_enter Try.func50, Try.ntmps50
    go_wp2_with (at_builtin; refine wpList_cat2 (α := Sec) rfl (.tmp 23) (.tmp 24) 27 rfl base 44 i0 _ 32 Try.underlying27 hi hz0 hz1 hz2 rfl (by omega) L n HL.out (some ⟨g, 0, none⟩) _ rfl [x] 1 rfl (some ⟨w0.heap.size, 0, none⟩) 1 rfl h.rd h.own1 (by omega) (by omega) (by have := h.hb; have := hsz.out; omega) ?_; intro A' c' w' hown' hgg hgr)
    go_ret
    refine ⟨A', c', rfl, ?_, fun u hu hub => hgg u (Gw.trans hu h.gw) hub⟩
    rw [List.take_of_length_le (by rw [HL.out]; exact Nat.le_refl _), List.drop_of_length_le (by rw [HL.out]; exact Nat.le_refl _), List.append_nil]
    exact hown'

end Go.Proofs.Ytopaekijhkfhpaa
