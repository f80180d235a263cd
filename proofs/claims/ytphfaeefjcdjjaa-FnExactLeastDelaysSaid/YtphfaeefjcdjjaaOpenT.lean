/-
  An argument that is a struct of three slices and a number, opened.
-/
import Derived.Test.YtphfaeefjcdjjaaList
import Derived.Lib.SmallJoins
namespace Go.Proofs.Ytphfaeefjcdjjaa
open Go.RowKit Go.ChangeShapes Go.WideShapes
set_option linter.unusedVariables false

section
variable {H : Type} {enc : TypeId × Value → H} {P : Program} {w : World} {spare : Nat → Bool} {held : Bool}
theorem open_rowsC {α : Type} [Plain α] {t e : TypeId} {n fuel : Nat} {cs : List Value} {y : DataW H × List MemPlace}
    (ht : P.underlying t = some (.slice e)) (hk : flatK P n e = some (Plain.ks α)) (hC : P.cellsOf e = Flat.sz α)
    (hf : DataW.trod enc P w 0 spare held fuel t cs = some y) :
    ∃ (A : Option Addr) (l : List α) (c : Nat), cs = [.slice A l.length c] ∧ l.length ≤ c ∧ c ≤ maxLen ∧ Rd w A l ∧ ∀ x ∈ l, Plain.ok x := by
  rcases Deep.open_slice ht hf with ⟨hcs, _⟩ | ⟨a, len, cap, m, n', D, Pl, hcs, _, hl, hm, hmm, hx, hi⟩
  · subst hcs
    exact ⟨none, [], 0, rfl, Nat.le_refl _, by simp [maxLen], Rd.nil, fun x hx => by simp at hx⟩
  · subst hcs
    have hlm : len ≤ m := by rw [hmm]; split <;> omega
    have hone : ∀ i, i < len → ∃ x : α, Plain.ok x ∧ ∀ j u, (Flat.cells x)[j]? = some u → w.cell? (a.add (i * Flat.sz α + j)) = some u := by
      intro i him
      obtain ⟨cs', hc, htr⟩ := hi i (by omega)
      obtain ⟨x, rfl, hok⟩ := Plain.of (α := α) cs' (flatK_fits _ _ _ _ _ _ hk htr)
      obtain ⟨_, hcl, hat⟩ := World.cells?_some hc
      refine ⟨x, hok, fun j u hu => ?_⟩
      have hj : j < Flat.sz α := by rw [← Flat.len x]; exact (List.getElem?_eq_some_iff.1 hu).1
      rw [← Deep.add_add, ← hC, hat j (by omega), hu]
    obtain ⟨l, hll, hp⟩ := list_of hone
    subst hll
    refine ⟨some a, l, cap, rfl, hl, hm, ?_, fun x hx => ?_⟩
    · intro hne
      obtain ⟨b, off, sp⟩ := a
      have hpos : 0 < l.length := by cases l with | nil => exact absurd rfl hne | cons _ _ => simp
      obtain ⟨x0, hx0⟩ := get_of_lt hpos
      have hblk : b < w.heap.size := by
        have h0 := (hp 0 x0 hx0).2 0 _ (List.getElem?_eq_getElem (by rw [Flat.len x0]; exact Flat.pos))
        simp only [Nat.zero_mul, Nat.zero_add] at h0
        have hb' := World.block_lt_of_cell? w _ h0
        simpa [Addr.add] using hb'
      have hsp : sp = none := by
        have h0 := (hp 0 x0 hx0).2 0 _ (List.getElem?_eq_getElem (by rw [Flat.len x0]; exact Flat.pos))
        simp only [Nat.zero_mul, Nat.zero_add, Addr.add, if_true] at h0
        cases sp with
        | none => rfl
        | some q =>
          exfalso
          revert h0
          unfold World.cell?
          split <;> simp
      subst hsp
      refine ⟨b, off, rfl, hblk, fun i x hx j u hu => ?_⟩
      have := (hp i x hx).2 j u hu
      unfold Addr.add at this
      split at this
      · rename_i h0
        rw [Nat.add_assoc, h0, Nat.add_zero]
        exact this
      · rw [Nat.add_assoc]
        exact this
    · obtain ⟨i, hi, rfl⟩ := List.getElem_of_mem hx
      exact (hp i _ (List.getElem?_eq_getElem hi)).1
theorem take_one {cs : List Value} {c0 c1 c2 c3 : Value} (h : cs = [c0, c1, c2, c3]) : (cs.drop 0).take 1 = [c0] ∧ (cs.drop 1).take 1 = [c1] ∧ (cs.drop 2).take 1 = [c2] ∧ (cs.drop 3).take 1 = [c3] := by subst h; exact ⟨rfl, rfl, rfl, rfl⟩
theorem open_trans {r : Reach} {b0 : Nat} {t e0 e1 e3 : TypeId} {f0 f1 f2 f3 : Field} {n : Nat} {v : Value} {d : DataW H} {p : List MemPlace}
    (ht : P.underlying t = some (.struct #[f0, f1, f2, f3])) (o0 : f0.offset = 0) (o1 : f1.offset = 1) (o2 : f2.offset = 2) (o3 : f3.offset = 3) (s : P.cellsOf t = 4) (s0 : P.cellsOf f0.type = 1) (s1 : P.cellsOf f1.type = 1) (s2 : P.cellsOf f2.type = 1) (s3 : P.cellsOf f3.type = 1)
    (h0 : P.underlying f0.type = some (.slice e0)) (h1 : P.underlying f1.type = some (.slice e1)) (h2 : P.underlying f2.type = some (.int .i64)) (h3 : P.underlying f3.type = some (.slice e3))
    (k0 : flatK P n e0 = some (Plain.ks (Int × Int))) (k1 : flatK P n e1 = some (Plain.ks (Int × Int))) (k3 : flatK P n e3 = some (Plain.ks Int)) (q0 : P.cellsOf e0 = Flat.sz (Int × Int)) (q1 : P.cellsOf e1 = Flat.sz (Int × Int)) (q3 : P.cellsOf e3 = Flat.sz Int)
    (hv : Value.okWide P w r b0 t v) (h : DataW.Trod enc P w 0 spare held t v d p) :
    ∃ (A : Option Addr) (F : List (Int × Int)) (ca : Nat) (B : Option Addr) (G : List (Int × Int)) (cb : Nat) (C : Int) (D : Option Addr) (Q : List Int) (cd : Nat), v = .agg #[.slice A F.length ca, .slice B G.length cb, .int .i64 C, .slice D Q.length cd] ∧
      (F.length ≤ ca ∧ ca ≤ maxLen ∧ Rd w A F) ∧ (G.length ≤ cb ∧ cb ≤ maxLen ∧ Rd w B G) ∧ (Lit.int .i64 C).wf = true ∧ (Q.length ≤ cd ∧ cd ≤ maxLen ∧ Rd w D Q) := by
  obtain ⟨cs, rfl, hsz⟩ := okWide_struct ht hv
  rw [s] at hsz
  obtain ⟨c0, c1, c2, c3, rfl⟩ := Joins.array4 hsz
  obtain ⟨fuel, hf⟩ := h
  obtain ⟨y0, y1, y2, y3, m, _, _, t0, t1, t2, t3⟩ := Joins.trod_struct4 ht hf
  obtain ⟨e0', e1', e2', e3'⟩ := take_one (cs := (Value.agg #[c0, c1, c2, c3]).cells.toList) (c0 := c0) (c1 := c1) (c2 := c2) (c3 := c3) rfl
  rw [o0, s0, e0'] at t0
  rw [o1, s1, e1'] at t1
  rw [o2, s2, e2'] at t2
  rw [o3, s3, e3'] at t3
  obtain ⟨A, F, ca, g0, a1, a2, a3, _⟩ := open_rowsC (α := Int × Int) h0 k0 q0 t0
  obtain ⟨B, G, cb, g1, b1, b2, b3, _⟩ := open_rowsC (α := Int × Int) h1 k1 q1 t1
  obtain ⟨x, g2, _, hx⟩ := DataW.trod_int h2 t2
  obtain ⟨D, Q, cd, g3, d1, d2, d3, _⟩ := open_rowsC (α := Int) h3 k3 q3 t3
  simp only [List.cons.injEq, and_true] at g0 g1 g2 g3
  subst g0 g1 g2 g3
  exact ⟨A, F, ca, B, G, cb, x, D, Q, cd, rfl, ⟨a1, a2, a3⟩, ⟨b1, b2, b3⟩, hx, d1, d2, d3⟩
end
end Go.Proofs.Ytphfaeefjcdjjaa
