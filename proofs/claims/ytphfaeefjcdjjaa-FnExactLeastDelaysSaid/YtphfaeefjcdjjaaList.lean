/-
  Lists of plain structs in memory: what is read, what a call owns, what a loop over them has seen.
-/
import Derived.Test.YtphfaeefjcdjjaaKit
import Derived.Maps.AppendAt
namespace Go.Proofs.Ytphfaeefjcdjjaa
open Go.RowKit Go.ChangeShapes Go.WideShapes

class Flat (α : Type) where
  sz : Nat
  cells : α → List Value
  len : ∀ x, (cells x).length = sz
  one : ∀ x, ∀ u ∈ cells x, u.oneCell' = true
  pos : 0 < sz

instance : Flat Int where
  sz := 1
  cells := fun x => [.int .i64 x]
  len := fun _ => rfl
  one := fun x u hu => by simp at hu; subst hu <;> rfl
  pos := by omega
instance : Flat (Int × Int) where
  sz := 2
  cells := fun x => [.int .i64 x.1, .int .i64 x.2]
  len := fun _ => rfl
  one := fun x u hu => by simp at hu; rcases hu with rfl | rfl <;> rfl
  pos := by omega
instance : Flat (Int × Int × Int) where
  sz := 3
  cells := fun x => [.int .i64 x.1, .int .i64 x.2.1, .int .i64 x.2.2]
  len := fun _ => rfl
  one := fun x u hu => by simp at hu; rcases hu with rfl | rfl | rfl <;> rfl
  pos := by omega
instance : Flat (Int × Int × Int × Int) where
  sz := 4
  cells := fun x => [.int .i64 x.1, .int .i64 x.2.1, .int .i64 x.2.2.1, .int .i64 x.2.2.2]
  len := fun _ => rfl
  one := fun x u hu => by simp at hu; rcases hu with rfl | rfl | rfl | rfl <;> rfl
  pos := by omega
instance : Flat (Int × Int × Int × Int × Int) where
  sz := 5
  cells := fun x => [.int .i64 x.1, .int .i64 x.2.1, .int .i64 x.2.2.1, .int .i64 x.2.2.2.1, .int .i64 x.2.2.2.2]
  len := fun _ => rfl
  one := fun x u hu => by simp at hu; rcases hu with rfl | rfl | rfl | rfl | rfl <;> rfl
  pos := by omega
instance : Flat (Int × Int × Int × Int × Int × Int) where
  sz := 6
  cells := fun x => [.int .i64 x.1, .int .i64 x.2.1, .int .i64 x.2.2.1, .int .i64 x.2.2.2.1, .int .i64 x.2.2.2.2.1, .int .i64 x.2.2.2.2.2]
  len := fun _ => rfl
  one := fun x u hu => by simp at hu; rcases hu with rfl | rfl | rfl | rfl | rfl | rfl <;> rfl
  pos := by omega
instance : Flat (ByteArray × Int × Int) where
  sz := 3
  cells := fun x => [.string x.1, .int .i64 x.2.1, .int .i64 x.2.2]
  len := fun _ => rfl
  one := fun x u hu => by simp at hu; rcases hu with rfl | rfl | rfl <;> rfl
  pos := by omega

section
variable {α : Type} [Flat α]
def flat (l : List α) : List Value := l.flatMap Flat.cells

theorem flat_len (l : List α) : (flat l).length = l.length * Flat.sz α := by
  induction l with
  | nil => simp [flat]
  | cons x l ih =>
    have : flat (x :: l) = Flat.cells x ++ flat l := by simp [flat]
    rw [this, List.length_append, ih, Flat.len, List.length_cons, Nat.add_mul]
    omega
theorem flat_append (l l' : List α) : flat (l ++ l') = flat l ++ flat l' := by simp [flat]
theorem flat_one (x : α) : flat [x] = Flat.cells x := by simp [flat]
theorem flat_cell (l : List α) : ∀ u ∈ flat l, u.oneCell' = true := by
  intro u hu
  obtain ⟨x, _, hx⟩ := List.mem_flatMap.1 hu
  exact Flat.one x u hx
theorem flat_get (l : List α) : ∀ (i j : Nat) (x : α) (u : Value), l[i]? = some x → (Flat.cells x)[j]? = some u → (flat l)[i * Flat.sz α + j]? = some u := by
  induction l with
  | nil => intro i j x u h; simp at h
  | cons y l ih =>
    intro i j x u h hu
    have e : flat (y :: l) = Flat.cells y ++ flat l := by simp [flat]
    rw [e]
    cases i with
    | zero =>
      simp at h
      subst h
      have hj : j < (Flat.cells y).length := (List.getElem?_eq_some_iff.1 hu).1
      rw [Nat.zero_mul, Nat.zero_add, List.getElem?_append_left hj]
      exact hu
    | succ i =>
      have h' : l[i]? = some x := by simpa using h
      have hlen := Flat.len y
      rw [List.getElem?_append_right (by rw [hlen, Nat.add_mul]; omega), hlen, show (i + 1) * Flat.sz α + j - Flat.sz α = i * Flat.sz α + j by rw [Nat.add_mul]; omega]
      exact ih i j x u h' hu

/-- The cells vs lie in block b from offset o on. -/
def CellsAt (w : World) (b o : Nat) (vs : List Value) : Prop := ∀ j u, vs[j]? = some u → w.cell? ⟨b, o + j, none⟩ = some u

/-- The list l lies at the address A. -/
def Rd (w : World) (A : Option Addr) (l : List α) : Prop :=
  l ≠ [] → ∃ b off, A = some ⟨b, off, none⟩ ∧ b < w.heap.size ∧ ∀ i x, l[i]? = some x → CellsAt w b (off + i * Flat.sz α) (Flat.cells x)

theorem Rd.nil {w : World} {A : Option Addr} : Rd w A ([] : List α) := fun h => absurd rfl h
theorem Rd.keep {w w' : World} {A : Option Addr} {l : List α} {row : Option Nat} (h : Rd w A l) (hg : w.grownBy w' row) (hne : ∀ b off, A = some ⟨b, off, none⟩ → some b ≠ row) : Rd w' A l := by
  intro hl
  obtain ⟨b, off, hA, hb, hc⟩ := h hl
  refine ⟨b, off, hA, Nat.lt_of_lt_of_le hb hg.size, fun i x hi j u hu => ?_⟩
  rw [World.cell?_of_block (w := w) (a := ⟨b, off + i * Flat.sz α + j, none⟩) (hg.block b hb (hne b off hA))]
  exact hc i x hi j u hu
theorem Rd.gw {w w' : World} {A : Option Addr} {l : List α} (h : Rd w A l) (hg : Gw w w') : Rd w' A l := h.keep (row := none) (hg.by_ none) (fun _ _ _ => by simp)
theorem Rd.get {w : World} {A : Option Addr} {l : List α} {k : Nat} {x : α} (h : Rd w A l) (hi : l[k]? = some x) : ∃ b off, A = some ⟨b, off, none⟩ ∧ b < w.heap.size ∧ CellsAt w b (off + k * Flat.sz α) (Flat.cells x) := by
  obtain ⟨b, off, hA, hb, hc⟩ := h (by rintro rfl; simp at hi)
  exact ⟨b, off, hA, hb, hc k x hi⟩
theorem Rd.drop {w : World} {b off : Nat} {l : List α} (h : Rd w (some ⟨b, off, none⟩) l) (i : Nat) : Rd w (some ⟨b, off + i * Flat.sz α, none⟩) (l.drop i) := by
  intro hl
  obtain ⟨b', off', hA, hb, hc⟩ := h (by rintro rfl; simp at hl)
  simp only [Option.some.injEq, Addr.mk.injEq, and_true] at hA
  obtain ⟨rfl, rfl⟩ := hA
  refine ⟨b, _, rfl, hb, fun k x hk => ?_⟩
  rw [Nat.add_assoc, ← Nat.add_mul]
  exact hc _ _ (by simpa using hk)
theorem Rd.take {w : World} {A : Option Addr} {l : List α} (h : Rd w A l) (i : Nat) : Rd w A (l.take i) := by
  intro hl
  obtain ⟨b, off, hA, hb, hc⟩ := h (by rintro rfl; simp at hl)
  refine ⟨b, off, hA, hb, fun k x hk => ?_⟩
  rw [List.getElem?_take] at hk
  split at hk
  · exact hc _ _ hk
  · cases hk

/-- What a call owns reads as its list. -/
theorem own_form {w : World} {base : Nat} {e : TypeId} {size n : Nat} {v : Value} {xs : List Value} (h : w.ownsRow base e size v n xs) : ∃ A c, v = .slice A n c ∧ n ≤ c ∧ c ≤ maxLen ∧ (0 < n → ∃ g, A = some ⟨g, 0, none⟩ ∧ base ≤ g ∧ g < w.heap.size) ∧ (A = none ∨ ∃ g, A = some ⟨g, 0, none⟩ ∧ base ≤ g ∧ g < w.heap.size) := by
  rcases h.2 with ⟨rfl, rfl⟩ | ⟨g, cap, cur, rfl, hb, hg, hc, hm, _⟩
  · exact ⟨none, 0, rfl, Nat.le_refl _, by simp [maxLen], fun h => absurd h (by omega), .inl rfl⟩
  · have hlt : g < w.heap.size := (Array.getElem?_eq_some_iff.1 hg).1
    exact ⟨_, cap, rfl, hc, hm, fun _ => ⟨g, rfl, hb, hlt⟩, .inr ⟨g, rfl, hb, hlt⟩⟩
theorem own_rd {w : World} {base : Nat} {e : TypeId} {A : Option Addr} {n c : Nat} {l : List α} (h : w.ownsRow base e (Flat.sz α) (.slice A n c) l.length (flat l)) : Rd w A l := by
  intro hl
  rcases h.2 with ⟨hv, h0⟩ | ⟨g, cap, cur, hv, hb, hg, hc, hm, hs, ht⟩
  · exact absurd (List.eq_nil_of_length_eq_zero h0) hl
  · simp only [Value.slice.injEq] at hv
    obtain ⟨rfl, rfl, rfl⟩ := hv
    refine ⟨g, 0, rfl, (Array.getElem?_eq_some_iff.1 hg).1, fun i x hi j u hu => ?_⟩
    have hi' : i < l.length := (List.getElem?_eq_some_iff.1 hi).1
    have hj' : j < Flat.sz α := by rw [← Flat.len x]; exact (List.getElem?_eq_some_iff.1 hu).1
    have hlt : i * Flat.sz α + j < l.length * Flat.sz α := by
      have : (i + 1) * Flat.sz α ≤ l.length * Flat.sz α := Nat.mul_le_mul_right _ hi'
      rw [Nat.add_mul] at this
      omega
    have := World.ownsRow.cellAt h (i * Flat.sz α + j) hlt
    rw [Nat.zero_add, this]
    exact flat_get l i j x u hi hu
theorem own_free {w : World} {base : Nat} {e : TypeId} {size n c : Nat} {g m : Nat} {xs : List Value} (h : w.ownsRow base e size (.slice (some ⟨g, 0, none⟩) n c) m xs) (hm : n = m) (j : Nat) : w.frozen? ⟨g, j, none⟩ = false := by
  subst hm
  exact World.ownsRow.frozenAt h j

/-! ### What a loop has seen -/
def AllTo (P : α → Prop) (l : List α) (k : Nat) : Prop := ∀ i x, i < k → l[i]? = some x → P x
end
theorem AllTo.zero {α : Type} {P : α → Prop} {l : List α} : AllTo P l 0 := fun _ _ h => absurd h (by omega)
theorem AllTo.succ {α : Type} {P : α → Prop} {l : List α} {k : Nat} {x : α} (h : AllTo P l k) (hx : l[k]? = some x) (hp : P x) : AllTo P l (k + 1) := by
  intro i y hi hy
  by_cases e : i = k
  · subst e
    rw [hx] at hy
    cases hy
    exact hp
  · exact h i y (by omega) hy
theorem AllTo.all {α : Type} {P : α → Prop} {l : List α} {k : Nat} (h : AllTo P l k) (hk : l.length ≤ k) : ∀ x ∈ l, P x := by
  intro x hx
  obtain ⟨i, hi, rfl⟩ := List.getElem_of_mem hx
  exact h i _ (by omega) (List.getElem?_eq_getElem hi)
theorem get_of_lt {α : Type} {l : List α} {k : Nat} (h : k < l.length) : ∃ x, l[k]? = some x := ⟨_, List.getElem?_eq_getElem h⟩
theorem mem_of_get {α : Type} {l : List α} {k : Nat} {x : α} (h : l[k]? = some x) : x ∈ l := List.mem_of_getElem? h
theorem take_succ_of {α : Type} {l : List α} {k : Nat} {x : α} (h : l[k]? = some x) : l.take (k + 1) = l.take k ++ [x] := by
  obtain ⟨hk, rfl⟩ := List.getElem?_eq_some_iff.1 h
  rw [List.take_succ_eq_append_getElem hk]

/-! ### A row that is filled from its head -/
def mix (ys xs : List Value) (m : Nat) : List Value := ys.take m ++ xs.drop m
theorem mix_zero (ys xs : List Value) : mix ys xs 0 = xs := by simp [mix]
theorem mix_len {ys xs : List Value} {m : Nat} (h : ys.length = xs.length) : (mix ys xs m).length = xs.length := by
  unfold mix; rw [List.length_append, List.length_take, List.length_drop]; omega
theorem mix_all {ys xs : List Value} {m : Nat} (h : ys.length = xs.length) (hm : xs.length ≤ m) : mix ys xs m = ys := by
  unfold mix; rw [List.take_of_length_le (by omega), List.drop_of_length_le hm, List.append_nil]
theorem mix_set {ys xs : List Value} {m : Nat} {u : Value} (h : ys.length = xs.length) (hu : ys[m]? = some u) : (mix ys xs m).set m u = mix ys xs (m + 1) := by
  have hm : m < ys.length := (List.getElem?_eq_some_iff.1 hu).1
  have hl : (ys.take m).length = m := by rw [List.length_take]; omega
  unfold mix
  rw [List.set_append, if_neg (by omega), hl, Nat.sub_self, List.drop_eq_getElem_cons (show m < xs.length by omega), List.set_cons_zero, take_succ_of hu, List.append_assoc]
  rfl
/-- The numbers that a mark writes. -/
def marks (k : Int) (n : Nat) : List Value := (List.range n).map fun j => .int .i64 (k + (j : Nat))
theorem marks_len (k : Int) (n : Nat) : (marks k n).length = n := by simp [marks]
theorem marks_get {k : Int} {n j : Nat} (h : j < n) : (marks k n)[j]? = some (.int .i64 (k + (j : Nat))) := by simp [marks, h]
/-- A store of the next cell. -/
theorem own_fill {w : World} {base : Nat} {e : TypeId} {size n c g m : Nat} {ys xs : List Value} {u : Value} (h : w.ownsRow base e size (.slice (some ⟨g, 0, none⟩) n c) n (mix ys xs m)) (hl : ys.length = xs.length) (hu : ys[m]? = some u) :
    (w.setCell ⟨g, m, none⟩ u).ownsRow base e size (.slice (some ⟨g, 0, none⟩) n c) n (mix ys xs (m + 1)) ∧ w.grownBy (w.setCell ⟨g, m, none⟩ u) (some g) := by
  have := World.ownsRow.stored h m u
  rw [mix_set hl hu] at this
  exact this
/-- A cell of an owned row: it is there, and may be written. -/
theorem own_cell {w : World} {base : Nat} {e : TypeId} {size n c g j : Nat} {xs : List Value} (h : w.ownsRow base e size (.slice (some ⟨g, 0, none⟩) n c) n xs) (hj : j < n * size) : ∃ u, w.cell? ⟨g, j, none⟩ = some u := by
  rw [World.ownsRow.cellAt h j hj]
  exact ⟨_, List.getElem?_eq_getElem (by rw [h.1]; exact hj)⟩
theorem own_addr {w : World} {base : Nat} {e : TypeId} {size n c : Nat} {A : Option Addr} {xs : List Value} (h : w.ownsRow base e size (.slice A n c) n xs) (hn : 0 < n) : ∃ g, A = some ⟨g, 0, none⟩ ∧ base ≤ g ∧ g < w.heap.size := by
  obtain ⟨A', c', hv, _, _, hg, _⟩ := own_form h
  simp only [Value.slice.injEq, true_and] at hv
  obtain ⟨rfl, rfl⟩ := hv
  exact hg hn
theorem own_gw {w w' : World} {base : Nat} {e : TypeId} {size n : Nat} {v : Value} {xs : List Value} (h : w.ownsRow base e size v n xs) (hg : Gw w w') : w'.ownsRow base e size v n xs :=
  h.kept (hg.by_ none) (by cases v.ownBlock <;> simp)
theorem own_lower {w : World} {base base' : Nat} {e : TypeId} {size n : Nat} {v : Value} {xs : List Value} (h : w.ownsRow base e size v n xs) (hb : base' ≤ base) : w.ownsRow base' e size v n xs := by
  refine ⟨h.1, ?_⟩
  rcases h.2 with h2 | ⟨g, cap, cur, hv, hg, r⟩
  · exact .inl h2
  · exact .inr ⟨g, cap, cur, hv, by omega, r⟩

/-- append of one element onto a list of the call's own. -/
theorem wpList_push {α : Type} [Flat α] {P : Program} {w : World} {ops : Array Oper} {rest : List Oper} {o : Oper} {a : Act} {Q : Exit → Act → World → Prop} (hgd : o.guard = none) (s x : Operand) (t : TypeId)
    (ho : o.op = .call { callee := .builtin .append, args := #[s, x], argTypes := #[t, t] })
    (base : Nat) (e : TypeId) (i : TypeInfo) (z : Value) (bytes : Nat) (ht : P.underlying t = some (.slice e)) (hi : P.info? e = some i) (hz : i.zero = some z)
    (hsize : i.size = Flat.sz α) (hby : i.bytes = bytes) (hzs : z.cells.size = Flat.sz α) (hb64 : bytes ≤ 64)
    (acc : List α) (A : Option Addr) (c : Nat) (hs : a.eval s = .slice A acc.length c) (w0 : World) (y : α) (hw : w = w0.alloc (.cells (Flat.cells y).toArray e))
    (H : Nat) (hH : w0.heap.size = H) (hx : a.eval x = .slice (some ⟨H, 0, none⟩) 1 1)
    (hown : w0.ownsRow base e (Flat.sz α) (.slice A acc.length c) acc.length (flat acc)) (hlen : acc.length ≤ 1048576) (hbase : base ≤ w0.heap.size)
    (h : ∀ (acc' : List α) (A' : Option Addr) (c' : Nat) (w' : World), Hid (acc' = acc ++ [y]) → acc.length < acc'.length → acc'.length ≤ acc.length + 1 →
      w'.ownsRow base e (Flat.sz α) (.slice A' acc'.length c') acc'.length (flat acc') → w.grownBy w' (Value.slice A acc.length c).ownBlock → (∀ u, Gw u w0 → u.heap.size ≤ base → Gw u w') →
      wpList P ops Q rest (a.put o.dst (.slice A' acc'.length c')) w') :
    wpList P ops Q (o :: rest) a w := by
  subst hw
  subst hH
  have hnews : ∀ j u, (Flat.cells y)[j]? = some u → (w0.alloc (.cells (Flat.cells y).toArray e)).cell? ((⟨w0.heap.size, 0, none⟩ : Addr).add j) = some u := by
    intro j u hu
    have hadd : (⟨w0.heap.size, 0, none⟩ : Addr).add j = ⟨w0.heap.size, j, none⟩ := by unfold Addr.add; split <;> simp_all
    rw [hadd, cell_of_row _ _ _ _ _ _ (heap_alloc_new w0 (.cells (Flat.cells y).toArray e))]
    simpa using hu
  refine wpList_append_own_at _ hgd s x t ho base e i z (Flat.sz α) bytes ht hi hz hsize hby hzs Flat.pos (.slice A acc.length c) acc.length (flat acc) hs (hown.alloc _) ⟨w0.heap.size, 0, none⟩ 1 1 (Flat.cells y) hx (by rw [Flat.len]; omega) hnews (Flat.one y) (by unfold maxLen; omega) (by
      have := Nat.mul_le_mul (show acc.length + 1 ≤ 1048577 by omega) hb64
      omega) (by simp; omega) ?_
  intro v' w' hown' hg _ _
  obtain ⟨A', c', rfl, _⟩ := own_form hown'
  have hl : (acc ++ [y]).length = acc.length + 1 := by simp
  have he : flat acc ++ Flat.cells y = flat (acc ++ [y]) := by rw [flat_append, flat_one]
  rw [he] at hown'
  rw [← hl] at hown' ⊢
  refine h (acc ++ [y]) A' c' w' rfl (by omega) (by omega) hown' hg (fun u hu hub => ?_)
  exact (hu.alloc _).grown hg (fun k hk => Nat.le_trans hub (hown.lt k hk).1)
theorem grownBy_trans {a b c : World} {row : Option Nat} (h : a.grownBy b row) (k : b.grownBy c row) : a.grownBy c row :=
  ⟨k.os.trans h.os, k.tape.trans h.tape, k.output.trans h.output, Nat.le_trans h.size k.size, fun i hi hne => (k.block i (Nat.lt_of_lt_of_le hi h.size) hne).trans (h.block i hi hne)⟩

/-! ### One element's cells, by the number of its fields -/
theorem Rd.get1 {w : World} {A : Option Addr} {l : List Int} {k : Nat} {x : Int} (h : Rd w A l) (hi : l[k]? = some x) : ∃ b off, A = some ⟨b, off, none⟩ ∧ b < w.heap.size ∧ w.cell? ⟨b, off + k, none⟩ = some (.int .i64 x) := by
  obtain ⟨b, off, hA, hb, hc⟩ := h.get hi
  have h0 := hc 0 _ rfl
  simp only [show Flat.sz Int = 1 from rfl, Nat.mul_one, Nat.add_zero] at h0
  exact ⟨b, off, hA, hb, h0⟩
theorem Rd.get2 {w : World} {A : Option Addr} {l : List (Int × Int)} {k : Nat} {x : (Int × Int)} (h : Rd w A l) (hi : l[k]? = some x) : ∃ b off, A = some ⟨b, off, none⟩ ∧ b < w.heap.size ∧ w.cell? ⟨b, off + k * 2, none⟩ = some (.int .i64 x.1) ∧ w.cell? ⟨b, off + k * 2 + 1, none⟩ = some (.int .i64 x.2) := by
  obtain ⟨b, off, hA, hb, hc⟩ := h.get hi
  exact ⟨b, off, hA, hb, hc 0 _ rfl, hc 1 _ rfl⟩
theorem Rd.get3 {w : World} {A : Option Addr} {l : List (Int × Int × Int)} {k : Nat} {x : (Int × Int × Int)} (h : Rd w A l) (hi : l[k]? = some x) : ∃ b off, A = some ⟨b, off, none⟩ ∧ b < w.heap.size ∧ w.cell? ⟨b, off + k * 3, none⟩ = some (.int .i64 x.1) ∧ w.cell? ⟨b, off + k * 3 + 1, none⟩ = some (.int .i64 x.2.1) ∧ w.cell? ⟨b, off + k * 3 + 2, none⟩ = some (.int .i64 x.2.2) := by
  obtain ⟨b, off, hA, hb, hc⟩ := h.get hi
  exact ⟨b, off, hA, hb, hc 0 _ rfl, hc 1 _ rfl, hc 2 _ rfl⟩
theorem Rd.get4 {w : World} {A : Option Addr} {l : List (Int × Int × Int × Int)} {k : Nat} {x : (Int × Int × Int × Int)} (h : Rd w A l) (hi : l[k]? = some x) : ∃ b off, A = some ⟨b, off, none⟩ ∧ b < w.heap.size ∧ w.cell? ⟨b, off + k * 4, none⟩ = some (.int .i64 x.1) ∧ w.cell? ⟨b, off + k * 4 + 1, none⟩ = some (.int .i64 x.2.1) ∧ w.cell? ⟨b, off + k * 4 + 2, none⟩ = some (.int .i64 x.2.2.1) ∧ w.cell? ⟨b, off + k * 4 + 3, none⟩ = some (.int .i64 x.2.2.2) := by
  obtain ⟨b, off, hA, hb, hc⟩ := h.get hi
  exact ⟨b, off, hA, hb, hc 0 _ rfl, hc 1 _ rfl, hc 2 _ rfl, hc 3 _ rfl⟩
theorem Rd.get5 {w : World} {A : Option Addr} {l : List (Int × Int × Int × Int × Int)} {k : Nat} {x : (Int × Int × Int × Int × Int)} (h : Rd w A l) (hi : l[k]? = some x) : ∃ b off, A = some ⟨b, off, none⟩ ∧ b < w.heap.size ∧ w.cell? ⟨b, off + k * 5, none⟩ = some (.int .i64 x.1) ∧ w.cell? ⟨b, off + k * 5 + 1, none⟩ = some (.int .i64 x.2.1) ∧ w.cell? ⟨b, off + k * 5 + 2, none⟩ = some (.int .i64 x.2.2.1) ∧ w.cell? ⟨b, off + k * 5 + 3, none⟩ = some (.int .i64 x.2.2.2.1) ∧ w.cell? ⟨b, off + k * 5 + 4, none⟩ = some (.int .i64 x.2.2.2.2) := by
  obtain ⟨b, off, hA, hb, hc⟩ := h.get hi
  exact ⟨b, off, hA, hb, hc 0 _ rfl, hc 1 _ rfl, hc 2 _ rfl, hc 3 _ rfl, hc 4 _ rfl⟩
theorem Rd.get6 {w : World} {A : Option Addr} {l : List (Int × Int × Int × Int × Int × Int)} {k : Nat} {x : (Int × Int × Int × Int × Int × Int)} (h : Rd w A l) (hi : l[k]? = some x) : ∃ b off, A = some ⟨b, off, none⟩ ∧ b < w.heap.size ∧ w.cell? ⟨b, off + k * 6, none⟩ = some (.int .i64 x.1) ∧ w.cell? ⟨b, off + k * 6 + 1, none⟩ = some (.int .i64 x.2.1) ∧ w.cell? ⟨b, off + k * 6 + 2, none⟩ = some (.int .i64 x.2.2.1) ∧ w.cell? ⟨b, off + k * 6 + 3, none⟩ = some (.int .i64 x.2.2.2.1) ∧ w.cell? ⟨b, off + k * 6 + 4, none⟩ = some (.int .i64 x.2.2.2.2.1) ∧ w.cell? ⟨b, off + k * 6 + 5, none⟩ = some (.int .i64 x.2.2.2.2.2) := by
  obtain ⟨b, off, hA, hb, hc⟩ := h.get hi
  exact ⟨b, off, hA, hb, hc 0 _ rfl, hc 1 _ rfl, hc 2 _ rfl, hc 3 _ rfl, hc 4 _ rfl, hc 5 _ rfl⟩
theorem Rd.getS {w : World} {A : Option Addr} {l : List (ByteArray × Int × Int)} {k : Nat} {x : (ByteArray × Int × Int)} (h : Rd w A l) (hi : l[k]? = some x) : ∃ b off, A = some ⟨b, off, none⟩ ∧ b < w.heap.size ∧ w.cell? ⟨b, off + k * 3, none⟩ = some (.string x.1) ∧ w.cell? ⟨b, off + k * 3 + 1, none⟩ = some (.int .i64 x.2.1) ∧ w.cell? ⟨b, off + k * 3 + 2, none⟩ = some (.int .i64 x.2.2) := by
  obtain ⟨b, off, hA, hb, hc⟩ := h.get hi
  exact ⟨b, off, hA, hb, hc 0 _ rfl, hc 1 _ rfl, hc 2 _ rfl⟩

/-! ### An argument that is a slice of plain structs -/
def FK.ofSz : Nat → List FK := fun n => List.replicate n (.int .i64)
class Plain (α : Type) extends Flat α where
  ks : List FK
  kslen : ks.length = sz
  ok : α → Prop
  of : ∀ cs, Fits ks cs → ∃ x, cs = cells x ∧ ok x
instance : Plain Int where
  ks := [.int .i64]
  kslen := rfl
  ok := fun x => (Lit.int .i64 (x)).wf = true
  of := fun cs hr0 => by
    obtain ⟨_, _, rfl, ⟨x0, rfl, h0⟩, hr1⟩ := hr0.cons
    obtain rfl := hr1.nil
    exact ⟨x0, rfl, h0⟩
instance : Plain (Int × Int) where
  ks := [.int .i64, .int .i64]
  kslen := rfl
  ok := fun x => (Lit.int .i64 (x.1)).wf = true ∧ (Lit.int .i64 (x.2)).wf = true
  of := fun cs hr0 => by
    obtain ⟨_, _, rfl, ⟨x0, rfl, h0⟩, hr1⟩ := hr0.cons
    obtain ⟨_, _, rfl, ⟨x1, rfl, h1⟩, hr2⟩ := hr1.cons
    obtain rfl := hr2.nil
    exact ⟨(x0, x1), rfl, h0, h1⟩
instance : Plain (Int × Int × Int) where
  ks := [.int .i64, .int .i64, .int .i64]
  kslen := rfl
  ok := fun x => (Lit.int .i64 (x.1)).wf = true ∧ (Lit.int .i64 (x.2.1)).wf = true ∧ (Lit.int .i64 (x.2.2)).wf = true
  of := fun cs hr0 => by
    obtain ⟨_, _, rfl, ⟨x0, rfl, h0⟩, hr1⟩ := hr0.cons
    obtain ⟨_, _, rfl, ⟨x1, rfl, h1⟩, hr2⟩ := hr1.cons
    obtain ⟨_, _, rfl, ⟨x2, rfl, h2⟩, hr3⟩ := hr2.cons
    obtain rfl := hr3.nil
    exact ⟨(x0, x1, x2), rfl, h0, h1, h2⟩
instance : Plain (Int × Int × Int × Int) where
  ks := [.int .i64, .int .i64, .int .i64, .int .i64]
  kslen := rfl
  ok := fun x => (Lit.int .i64 (x.1)).wf = true ∧ (Lit.int .i64 (x.2.1)).wf = true ∧ (Lit.int .i64 (x.2.2.1)).wf = true ∧ (Lit.int .i64 (x.2.2.2)).wf = true
  of := fun cs hr0 => by
    obtain ⟨_, _, rfl, ⟨x0, rfl, h0⟩, hr1⟩ := hr0.cons
    obtain ⟨_, _, rfl, ⟨x1, rfl, h1⟩, hr2⟩ := hr1.cons
    obtain ⟨_, _, rfl, ⟨x2, rfl, h2⟩, hr3⟩ := hr2.cons
    obtain ⟨_, _, rfl, ⟨x3, rfl, h3⟩, hr4⟩ := hr3.cons
    obtain rfl := hr4.nil
    exact ⟨(x0, x1, x2, x3), rfl, h0, h1, h2, h3⟩
instance : Plain (Int × Int × Int × Int × Int) where
  ks := [.int .i64, .int .i64, .int .i64, .int .i64, .int .i64]
  kslen := rfl
  ok := fun x => (Lit.int .i64 (x.1)).wf = true ∧ (Lit.int .i64 (x.2.1)).wf = true ∧ (Lit.int .i64 (x.2.2.1)).wf = true ∧ (Lit.int .i64 (x.2.2.2.1)).wf = true ∧ (Lit.int .i64 (x.2.2.2.2)).wf = true
  of := fun cs hr0 => by
    obtain ⟨_, _, rfl, ⟨x0, rfl, h0⟩, hr1⟩ := hr0.cons
    obtain ⟨_, _, rfl, ⟨x1, rfl, h1⟩, hr2⟩ := hr1.cons
    obtain ⟨_, _, rfl, ⟨x2, rfl, h2⟩, hr3⟩ := hr2.cons
    obtain ⟨_, _, rfl, ⟨x3, rfl, h3⟩, hr4⟩ := hr3.cons
    obtain ⟨_, _, rfl, ⟨x4, rfl, h4⟩, hr5⟩ := hr4.cons
    obtain rfl := hr5.nil
    exact ⟨(x0, x1, x2, x3, x4), rfl, h0, h1, h2, h3, h4⟩
instance : Plain (Int × Int × Int × Int × Int × Int) where
  ks := [.int .i64, .int .i64, .int .i64, .int .i64, .int .i64, .int .i64]
  kslen := rfl
  ok := fun x => (Lit.int .i64 (x.1)).wf = true ∧ (Lit.int .i64 (x.2.1)).wf = true ∧ (Lit.int .i64 (x.2.2.1)).wf = true ∧ (Lit.int .i64 (x.2.2.2.1)).wf = true ∧ (Lit.int .i64 (x.2.2.2.2.1)).wf = true ∧ (Lit.int .i64 (x.2.2.2.2.2)).wf = true
  of := fun cs hr0 => by
    obtain ⟨_, _, rfl, ⟨x0, rfl, h0⟩, hr1⟩ := hr0.cons
    obtain ⟨_, _, rfl, ⟨x1, rfl, h1⟩, hr2⟩ := hr1.cons
    obtain ⟨_, _, rfl, ⟨x2, rfl, h2⟩, hr3⟩ := hr2.cons
    obtain ⟨_, _, rfl, ⟨x3, rfl, h3⟩, hr4⟩ := hr3.cons
    obtain ⟨_, _, rfl, ⟨x4, rfl, h4⟩, hr5⟩ := hr4.cons
    obtain ⟨_, _, rfl, ⟨x5, rfl, h5⟩, hr6⟩ := hr5.cons
    obtain rfl := hr6.nil
    exact ⟨(x0, x1, x2, x3, x4, x5), rfl, h0, h1, h2, h3, h4, h5⟩
instance : Plain (ByteArray × Int × Int) where
  ks := [.str, .int .i64, .int .i64]
  kslen := rfl
  ok := fun x => x.1.size ≤ maxLen ∧ (Lit.int .i64 x.2.1).wf = true ∧ (Lit.int .i64 x.2.2).wf = true
  of := fun cs hr0 => by
    obtain ⟨_, _, rfl, ⟨x0, rfl, h0⟩, hr1⟩ := hr0.cons
    obtain ⟨_, _, rfl, ⟨x1, rfl, h1⟩, hr2⟩ := hr1.cons
    obtain ⟨_, _, rfl, ⟨x2, rfl, h2⟩, hr3⟩ := hr2.cons
    obtain rfl := hr3.nil
    exact ⟨(x0, x1, x2), rfl, h0, h1, h2⟩

theorem list_of {α : Type} {n : Nat} {p : Nat → α → Prop} : (∀ i, i < n → ∃ x, p i x) → ∃ l : List α, l.length = n ∧ ∀ i x, l[i]? = some x → p i x := by
  induction n with
  | zero => exact fun _ => ⟨[], rfl, fun i x h => by simp at h⟩
  | succ n ih =>
    intro h
    obtain ⟨l, hl, hp⟩ := ih (fun i hi => h i (by omega))
    obtain ⟨x, hx⟩ := h n (by omega)
    refine ⟨l ++ [x], by simp [hl], fun i y hy => ?_⟩
    rcases Nat.lt_trichotomy i n with hi | hi | hi
    · rw [List.getElem?_append_left (by omega)] at hy
      exact hp i y hy
    · subst hi
      rw [List.getElem?_append_right (by omega), hl] at hy
      simp at hy
      subst hy
      exact hx
    · rw [List.getElem?_eq_none (by simp; omega)] at hy
      cases hy

section
variable {H : Type} {enc : TypeId × Value → H} {P : Program} {w : World} {spare : Nat → Bool} {held : Bool}
theorem open_rows {α : Type} [Plain α] {r : Reach} {b0 : Nat} {t e : TypeId} {n : Nat} {v : Value} {d : DataW H} {p : List MemPlace}
    (ht : P.underlying t = some (.slice e)) (hk : flatK P n e = some (Plain.ks α)) (hC : P.cellsOf e = Flat.sz α)
    (hv : Value.okWide P w r b0 t v) (h : DataW.Trod enc P w 0 spare held t v d p) (_hlt : ∀ x ∈ p, x.block < w.heap.size) :
    ∃ (A : Option Addr) (l : List α) (c : Nat), v = .slice A l.length c ∧ l.length ≤ c ∧ c ≤ maxLen ∧ Rd w A l ∧ ∀ x ∈ l, Plain.ok x := by
  obtain ⟨A, len, cap, rfl⟩ := okWide_slice ht hv
  obtain ⟨fuel, hf⟩ := h
  rcases Deep.open_slice ht hf with ⟨hcs, _⟩ | ⟨a, len', cap', m, n', D, Pl, hcs, _, hl, hm, hmm, hx, hi⟩
  · simp [Value.cells] at hcs
    obtain ⟨rfl, rfl, rfl⟩ := hcs
    exact ⟨none, [], 0, rfl, Nat.le_refl _, by simp [maxLen], Rd.nil, fun x hx => by simp at hx⟩
  · simp [Value.cells] at hcs
    obtain ⟨rfl, rfl, rfl⟩ := hcs
    have hlm : len ≤ m := by rw [hmm]; split <;> omega
    have hone : ∀ i, i < len → ∃ x : α, Plain.ok x ∧ ∀ j u, (Flat.cells x)[j]? = some u → w.cell? (a.add (i * Flat.sz α + j)) = some u := by
      intro i him
      obtain ⟨cs', hc, htr⟩ := hi i (by omega)
      obtain ⟨x, rfl, hok⟩ := Plain.of (α := α) cs' (flatK_fits _ _ _ _ _ _ hk htr)
      obtain ⟨_, hcl, hat⟩ := World.cells?_some hc
      refine ⟨x, hok, fun j u hu => ?_⟩
      have hj : j < Flat.sz α := by rw [← Flat.len x]; exact (List.getElem?_eq_some_iff.1 hu).1
      rw [← Deep.add_add, ← hC, hat j (by omega), hu]
    obtain ⟨l, hll, hp⟩ := list_of hone
    subst hll
    refine ⟨some a, l, cap, rfl, hl, hm, ?_, fun x hx => ?_⟩
    · intro hne
      obtain ⟨b, off, sp⟩ := a
      have hpos : 0 < l.length := by cases l with | nil => exact absurd rfl hne | cons _ _ => simp
      obtain ⟨x0, hx0⟩ := get_of_lt hpos
      have hblk : b < w.heap.size := by
        have h0 := (hp 0 x0 hx0).2 0 _ (List.getElem?_eq_getElem (by rw [Flat.len x0]; exact Flat.pos))
        simp only [Nat.zero_mul, Nat.zero_add] at h0
        have hb' := World.block_lt_of_cell? w _ h0
        simpa [Addr.add] using hb'
      have hsp : sp = none := by
        have h0 := (hp 0 x0 hx0).2 0 _ (List.getElem?_eq_getElem (by rw [Flat.len x0]; exact Flat.pos))
        simp only [Nat.zero_mul, Nat.zero_add, Addr.add, if_true] at h0
        cases sp with
        | none => rfl
        | some q =>
          exfalso
          revert h0
          unfold World.cell?
          split <;> simp
      subst hsp
      refine ⟨b, off, rfl, hblk, fun i x hx j u hu => ?_⟩
      have := (hp i x hx).2 j u hu
      unfold Addr.add at this
      split at this
      · rename_i h0
        rw [Nat.add_assoc, h0, Nat.add_zero]
        exact this
      · rw [Nat.add_assoc]
        exact this
    · obtain ⟨i, hi, rfl⟩ := List.getElem_of_mem hx
      exact (hp i _ (List.getElem?_eq_getElem hi)).1
end

end Go.Proofs.Ytphfaeefjcdjjaa
