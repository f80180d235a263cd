/-
  append of a whole list onto a list of the call's own; a store of one element.
-/
import Derived.Test.YtphfaeefjcdjjaaList
namespace Go.Proofs.Ytphfaeefjcdjjaa
open Go.RowKit Go.ChangeShapes Go.WideShapes

theorem flat_cells_at {α : Type} [Flat α] (l : List α) : ∀ (j : Nat) (u : Value), (flat l)[j]? = some u → ∃ i x m, l[i]? = some x ∧ (Flat.cells x)[m]? = some u ∧ j = i * Flat.sz α + m := by
  induction l with
  | nil => intro j u h; simp [flat] at h
  | cons y l ih =>
    intro j u h
    have hf : flat (y :: l) = Flat.cells y ++ flat l := by simp [flat]
    rw [hf, List.getElem?_append] at h
    split at h
    · exact ⟨0, y, j, rfl, h, by omega⟩
    · rename_i hj
      obtain ⟨i, x, m, hi, hm, he⟩ := ih _ _ h
      rw [Flat.len] at hj he
      exact ⟨i + 1, x, m, by simpa using hi, hm, by rw [Nat.add_mul]; omega⟩

theorem Rd.flat {α : Type} [Flat α] {w : World} {A : Option Addr} {l : List α} (h : Rd w A l) (hne : l ≠ []) : ∃ b off, A = some ⟨b, off, none⟩ ∧ b < w.heap.size ∧ CellsAt w b off (flat l) := by
  obtain ⟨b, off, hA, hb, hc⟩ := h hne
  refine ⟨b, off, hA, hb, fun j u hj => ?_⟩
  obtain ⟨i, x, m, hi, hm, rfl⟩ := flat_cells_at l j u hj
  have := hc i x hi m u hm
  rw [show off + (i * Flat.sz α + m) = off + i * Flat.sz α + m by omega]
  exact this

/-- append of a list (one that isn't empty) onto a list of the call's own. -/
theorem wpList_cat {α : Type} [Flat α] {P : Program} {w : World} {ops : Array Oper} {rest : List Oper} {o : Oper} {a : Act} {Q : Exit → Act → World → Prop} (hgd : o.guard = none) (s x : Operand) (t : TypeId)
    (ho : o.op = .call { callee := .builtin .append, args := #[s, x], argTypes := #[t, t] })
    (base : Nat) (e : TypeId) (i : TypeInfo) (z : Value) (bytes : Nat) (ht : P.underlying t = some (.slice e)) (hi : P.info? e = some i) (hz : i.zero = some z)
    (hsize : i.size = Flat.sz α) (hby : i.bytes = bytes) (hzs : z.cells.size = Flat.sz α) (hb64 : bytes ≤ 64)
    (acc : List α) (A : Option Addr) (c : Nat) (hs : a.eval s = .slice A acc.length c)
    (ys : List α) (B : Option Addr) (cy : Nat) (hx : a.eval x = .slice B ys.length cy) (hrd : Rd w B ys) (hne : ys ≠ [])
    (hown : w.ownsRow base e (Flat.sz α) (.slice A acc.length c) acc.length (flat acc)) (hlen : acc.length ≤ 1048576) (hlen2 : ys.length ≤ 1048576) (hbase : base ≤ w.heap.size)
    (h : ∀ (acc' : List α) (A' : Option Addr) (c' : Nat) (w' : World), Hid (acc' = acc ++ ys) → acc'.length = acc.length + ys.length →
      w'.ownsRow base e (Flat.sz α) (.slice A' acc'.length c') acc'.length (flat acc') → w.grownBy w' (Value.slice A acc.length c).ownBlock → (∀ u, Gw u w → u.heap.size ≤ base → Gw u w') →
      wpList P ops Q rest (a.put o.dst (.slice A' acc'.length c')) w') :
    wpList P ops Q (o :: rest) a w := by
  obtain ⟨b, off, rfl, hb, hc⟩ := hrd.flat hne
  refine wpList_append_own_at _ hgd s x t ho base e i z (Flat.sz α) bytes ht hi hz hsize hby hzs Flat.pos (.slice A acc.length c) acc.length (flat acc) hs hown ⟨b, off, none⟩ ys.length cy (flat ys) hx (by rw [flat_len]) ?_ (flat_cell ys) (by unfold maxLen; omega) (by
      have := Nat.mul_le_mul (show acc.length + ys.length ≤ 2097152 by omega) hb64
      omega) hbase ?_
  · intro j u hu
    have hadd : (⟨b, off, none⟩ : Addr).add j = ⟨b, off + j, none⟩ := by unfold Addr.add; split <;> simp_all
    rw [hadd]
    exact hc j u hu
  intro v' w' hown' hg _ _
  obtain ⟨A', c', rfl, _⟩ := own_form hown'
  have hl : (acc ++ ys).length = acc.length + ys.length := by simp
  have he : flat acc ++ flat ys = flat (acc ++ ys) := by rw [flat_append]
  rw [he] at hown'
  rw [← hl] at hown' ⊢
  refine h (acc ++ ys) A' c' w' rfl hl hown' hg (fun u hu hub => ?_)
  exact hu.grown hg (fun k hk => Nat.le_trans hub (hown.lt k hk).1)

/-- append of nothing. -/
theorem run_append_zero {P : Program} (w : World) (t ty e : TypeId) (i : TypeInfo) (ht : P.underlying t = some (.slice e)) (hi : P.info? e = some i) (A B : Option Addr) (n c cy : Nat) (hc : n ≤ c) :
    (Builtin.append_ #[t, t] ty #[.slice A n c, .slice B 0 cy]).run P w = .ok (.slice A n c) w := by
  cases A <;> cases B <;> simp [Builtin.append_, run_underlying ht, sizeOf, typeInfo, hi, Builtin.lenOf, Builtin.firstCells, loadCells, loadCellsFrom, storeCells, hc]

/-- append of a list, empty or not, onto a list of the call's own. -/
theorem wpList_catAny {α : Type} [Flat α] {P : Program} {w : World} {ops : Array Oper} {rest : List Oper} {o : Oper} {a : Act} {Q : Exit → Act → World → Prop} (hgd : o.guard = none) (s x : Operand) (t : TypeId)
    (ho : o.op = .call { callee := .builtin .append, args := #[s, x], argTypes := #[t, t] })
    (base : Nat) (e : TypeId) (i : TypeInfo) (z : Value) (bytes : Nat) (ht : P.underlying t = some (.slice e)) (hi : P.info? e = some i) (hz : i.zero = some z)
    (hsize : i.size = Flat.sz α) (hby : i.bytes = bytes) (hzs : z.cells.size = Flat.sz α) (hb64 : bytes ≤ 64)
    (acc : List α) (A : Option Addr) (c : Nat) (hs : a.eval s = .slice A acc.length c)
    (ys : List α) (n : Nat) (hn : ys.length = n) (B : Option Addr) (cy : Nat) (hx : a.eval x = .slice B n cy) (hrd : Rd w B ys)
    (hown : w.ownsRow base e (Flat.sz α) (.slice A acc.length c) acc.length (flat acc)) (hlen : acc.length ≤ 1048576) (hlen2 : n ≤ 1048576) (hbase : base ≤ w.heap.size)
    (h : ∀ (acc' : List α) (A' : Option Addr) (c' : Nat) (w' : World), Hid (acc' = acc ++ ys) → acc'.length = acc.length + n →
      w'.ownsRow base e (Flat.sz α) (.slice A' acc'.length c') acc'.length (flat acc') → (∀ u, Gw u w → u.heap.size ≤ base → Gw u w') →
      wpList P ops Q rest (a.put o.dst (.slice A' acc'.length c')) w') :
    wpList P ops Q (o :: rest) a w := by
  subst hn
  by_cases hne : ys = []
  · subst hne
    obtain ⟨A', c', hv, hc, _⟩ := own_form hown
    simp only [Value.slice.injEq, true_and] at hv
    obtain ⟨rfl, rfl⟩ := hv
    have hr := run_append_zero (P := P) w t o.type e i ht hi A B acc.length c cy hc
    refine wpList_plain hgd fun _ hK => ?_
    unfold Oper.wp execOp
    rw [List.length_nil] at hx
    simp only [ho, resolve, invoke, builtin, Sem.run_bind, Sem.run_pure, Result.andThen_ok, List.map_toArray, List.map_cons, List.map_nil, hs, hx, hr]
    exact hK _ _ (h acc A c w (by unfold Hid; simp) (by simp) hown (fun u hu _ => hu))
  · exact wpList_cat hgd s x t ho base e i z bytes ht hi hz hsize hby hzs hb64 acc A c hs ys B cy hx hrd hne hown hlen hlen2 hbase (fun acc' A' c' w' h1 h2 h3 _ h5 => h acc' A' c' w' h1 h2 h3 h5)

theorem flat_set2 (l : List (Int × Int)) (k : Nat) (x : Int × Int) : ((flat l).set (k * 2) (.int .i64 x.1)).set (k * 2 + 1) (.int .i64 x.2) = flat (l.set k x) := by
  induction l generalizing k with
  | nil => simp [flat]
  | cons y l ih =>
    have hf : ∀ (y : Int × Int) (l : List (Int × Int)), flat (y :: l) = .int .i64 y.1 :: .int .i64 y.2 :: flat l := fun y l => by simp [flat, Flat.cells]
    cases k with
    | zero => simp [hf]
    | succ k =>
      rw [hf, show (k + 1) * 2 = k * 2 + 1 + 1 by omega]
      simp only [List.set_cons_succ]
      rw [ih k, hf]

/-- A store of a pair in a list of the call's own. -/
theorem own_set2 {w : World} {base : Nat} {e : TypeId} {n c g k : Nat} {l : List (Int × Int)} (h : w.ownsRow base e 2 (.slice (some ⟨g, 0, none⟩) n c) n (flat l)) (x : Int × Int) :
    ((w.setCell ⟨g, k * 2, none⟩ (.int .i64 x.1)).setCell ⟨g, k * 2 + 1, none⟩ (.int .i64 x.2)).ownsRow base e 2 (.slice (some ⟨g, 0, none⟩) n c) n (flat (l.set k x)) ∧
      w.grownBy ((w.setCell ⟨g, k * 2, none⟩ (.int .i64 x.1)).setCell ⟨g, k * 2 + 1, none⟩ (.int .i64 x.2)) (some g) := by
  have h1 := World.ownsRow.stored h (k * 2) (.int .i64 x.1)
  have h2 := World.ownsRow.stored h1.1 (k * 2 + 1) (.int .i64 x.2)
  rw [flat_set2] at h2
  exact ⟨h2.1, grownBy_trans h1.2 h2.2⟩
end Go.Proofs.Ytphfaeefjcdjjaa
