/-
  The reference's table of hours.
-/
import Derived.Test.YtgbgmmdpldekbaaDoorHourI
import Derived.Test.YtgbgmmdpldekbaaDoorOpen
import Derived.Deep.OwnRows
namespace Go.Proofs.YtgbgmmdpldekbaaDoor
open Go.RowKit

theorem made_get {z : Value} {n j : Nat} (h : j < n) : (madeCells #[z] n)[j]? = some z := by
  simp [madeCells, h, Nat.mod_one]
theorem wpList_makeR {P : Program} (w : World) {ops : Array Oper} {rest : List Oper} {o : Oper} {a : Act} {Q : Exit → Act → World → Prop}
    (hg : o.guard = none) (l c : Operand) (t : TypeId) (hop : o.op = Op.makeSlice t l c)
    (e : TypeId) (z : Value) (bytes : Nat) (ht : P.underlying t = some (.slice e)) (hinfo : (P.info? e).map (fun i => (i.zero, i.size, i.bytes)) = some (some z, 1, bytes)) (hz1 : z.cells = #[z])
    (L : Int) (n : Nat) (hl : a.eval l = .int .i64 L) (hc : a.eval c = .int .i64 L) (hL : L = (n : Int)) (b2 : bytes * n ≤ 281474976710656) (b3 : n ≤ 9223372036854775807)
    (hK : wpList P ops Q rest (a.put o.dst (.slice (some ⟨w.heap.size, 0, none⟩) n n)) (w.alloc (.cells (madeCells #[z] n) e))) :
    wpList P ops Q (o :: rest) a w := by
  refine wpList_plain hg fun K hK' => ?_
  have hrun := run_make_row' (P := P) t e z bytes ht hinfo hz1 .i64 .i64 n b2 b3 w
  subst hL
  unfold Oper.wp
  simp [execOp, hop, hl, hc, hrun, Result.andThen]
  exact hK' _ _ hK
/-- A row of hours. -/
def RowB (w : World) (b : Nat) (T : Nat → Bool) : Prop := ∃ cs, BoxR w b cs 4 ∧ ∀ h, h < 168 → cs[h]? = some (.bool (T h))
theorem RowB.gw {w w' : World} {b : Nat} {T : Nat → Bool} (h : RowB w b T) (hg : Gw w w') : RowB w' b T := by
  obtain ⟨cs, h, r⟩ := h
  exact ⟨cs, h.gw hg, r⟩
theorem RowB.cell {w : World} {b : Nat} {T : Nat → Bool} (h : RowB w b T) {k : Nat} (hk : k < 168) : w.cell? ⟨b, k, none⟩ = some (.bool (T k)) := by
  obtain ⟨cs, h, r⟩ := h
  exact h.cell _ (r k hk)
theorem RowB.free {w : World} {b : Nat} {T : Nat → Bool} (h : RowB w b T) (j : Nat) : w.frozen? ⟨b, j, none⟩ = false := by
  obtain ⟨cs, h, _⟩ := h
  exact h.free j
theorem RowB.lt {w : World} {b : Nat} {T : Nat → Bool} (h : RowB w b T) : b < w.heap.size := by obtain ⟨cs, h, _⟩ := h; exact h.lt
theorem BoxR.other {w : World} {b : Nat} {cs : Array Value} {t : TypeId} {g j : Nat} {v : Value} (h : BoxR w b cs t) (hne : g ≠ b) : BoxR (w.setCell ⟨g, j, none⟩ v) b cs t := by
  unfold BoxR at *
  rw [← h]
  simp [World.setCell, Array.getElem?_modify, hne]
theorem RowB.other {w : World} {b : Nat} {T : Nat → Bool} {g j : Nat} {v : Value} (h : RowB w b T) (hne : g ≠ b) : RowB (w.setCell ⟨g, j, none⟩ v) b T := by
  obtain ⟨cs, h, r⟩ := h
  exact ⟨cs, h.other hne, r⟩
theorem RowB.set {w : World} {b : Nat} {T : Nat → Bool} (h : RowB w b T) {k : Nat} (v : Bool) (hk : k < 168) : RowB (w.setCell ⟨b, k, none⟩ (.bool v)) b (fun j => if j = k then v else T j) := by
  obtain ⟨cs, h, r⟩ := h
  refine ⟨_, h.set _ _, fun j hj => ?_⟩
  rw [Array.getElem?_setIfInBounds]
  by_cases e : k = j
  · subst e
    have := (Array.getElem?_eq_some_iff.1 (r k hk)).1
    rw [if_pos rfl, if_pos this]
    simp
  · rw [if_neg e, r j hj]
    dsimp only
    rw [if_neg (show ¬j = k by omega)]
theorem RowB.new (w : World) : RowB (w.alloc (.cells (madeCells #[.bool false] 168) 4)) w.heap.size (fun _ => false) := ⟨_, BoxR.new _ _ _, fun h hh => made_get hh⟩
/-- A table of the reference's: k rows are laid. -/
def TabK (w : World) (base g : Nat) (B : Nat → Nat) (T : Nat → Nat → Bool) (k : Nat) : Prop :=
  base ≤ g ∧ (∃ cs, BoxR w g cs 107 ∧ ∀ p, p < 10 → cs[p]? = some (if p < k then .slice (some ⟨B p, 0, none⟩) 168 168 else .slice none 0 0)) ∧
  (∀ p, p < k → base ≤ B p ∧ g ≠ B p ∧ RowB w (B p) (T p)) ∧ (∀ p q, p < q → q < k → B p ≠ B q)
theorem TabK.gw {w w' : World} {base g : Nat} {B : Nat → Nat} {T : Nat → Nat → Bool} {k : Nat} (h : TabK w base g B T k) (hg : Gw w w') : TabK w' base g B T k := by
  obtain ⟨h1, ⟨cs, h2, h3⟩, h4, h5⟩ := h
  exact ⟨h1, ⟨cs, h2.gw hg, h3⟩, fun p hp => ⟨(h4 p hp).1, (h4 p hp).2.1, (h4 p hp).2.2.gw hg⟩, h5⟩
theorem TabK.lt {w : World} {base g : Nat} {B : Nat → Nat} {T : Nat → Nat → Bool} {k : Nat} (h : TabK w base g B T k) : g < w.heap.size := by
  obtain ⟨_, ⟨cs, h2, _⟩, _⟩ := h
  exact h2.lt
theorem TabK.cell {w : World} {base g : Nat} {B : Nat → Nat} {T : Nat → Nat → Bool} {k : Nat} (h : TabK w base g B T k) {p : Nat} (hp : p < k) (hp2 : p < 10) : w.cell? ⟨g, p, none⟩ = some (.slice (some ⟨B p, 0, none⟩) 168 168) := by
  obtain ⟨_, ⟨cs, h2, h3⟩, _⟩ := h
  have := h2.cell _ (h3 p hp2)
  rwa [if_pos hp] at this
theorem TabK.cell' {w : World} {base g : Nat} {B : Nat → Nat} {T : Nat → Nat → Bool} {k : Nat} (h : TabK w base g B T k) {p : Nat} (hp : k ≤ p) (hp2 : p < 10) : w.cell? ⟨g, p, none⟩ = some (.slice none 0 0) := by
  obtain ⟨_, ⟨cs, h2, h3⟩, _⟩ := h
  have := h2.cell _ (h3 p hp2)
  rwa [if_neg (by omega)] at this
theorem TabK.free {w : World} {base g : Nat} {B : Nat → Nat} {T : Nat → Nat → Bool} {k : Nat} (h : TabK w base g B T k) (j : Nat) : w.frozen? ⟨g, j, none⟩ = false := by
  obtain ⟨_, ⟨cs, h2, _⟩, _⟩ := h
  exact h2.free j
theorem TabK.row {w : World} {base g : Nat} {B : Nat → Nat} {T : Nat → Nat → Bool} {k : Nat} (h : TabK w base g B T k) {p : Nat} (hp : p < k) : RowB w (B p) (T p) := (h.2.2.1 p hp).2.2
theorem TabK.start (w : World) (T : Nat → Nat → Bool) : TabK (w.alloc (.cells (madeCells #[.slice none 0 0] 10) 107)) w.heap.size w.heap.size (fun _ => 0) T 0 :=
  ⟨Nat.le_refl _, ⟨_, BoxR.new _ _ _, fun p hp => by rw [if_neg (by omega)]; exact made_get hp⟩, fun p hp => absurd hp (by omega), fun p q h1 h2 => absurd h2 (by omega)⟩
/-- A new row. -/
theorem TabK.push {w w' : World} {base g b : Nat} {B : Nat → Nat} {T : Nat → Nat → Bool} {k : Nat} (h : TabK w base g B T k) (hk : k < 10) (hg : Gw w w') (hb : w.heap.size ≤ b) {R : Nat → Bool} (hr : RowB w' b R) :
    TabK (w'.setCell ⟨g, k, none⟩ (.slice (some ⟨b, 0, none⟩) 168 168)) base g (fun p => if p = k then b else B p) (fun p => if p = k then R else T p) (k + 1) := by
  have hlt := h.lt
  obtain ⟨h1, ⟨cs, h2, h3⟩, h4, h5⟩ := h
  refine ⟨h1, ⟨_, (h2.gw hg).set _ _, fun p hp => ?_⟩, fun p hp => ?_, fun p q hpq hq => ?_⟩
  · rw [Array.getElem?_setIfInBounds]
    by_cases e : k = p
    · subst e
      have := (Array.getElem?_eq_some_iff.1 (h3 k hp)).1
      rw [if_pos rfl, if_pos this, if_pos (by omega)]
      simp
    · rw [if_neg e, h3 p hp]
      by_cases e2 : p < k
      · rw [if_pos e2, if_pos (by omega)]
        dsimp only
        rw [if_neg (show ¬p = k by omega)]
      · rw [if_neg e2, if_neg (by omega)]
  · dsimp only
    by_cases e : p = k
    · rw [if_pos e, if_pos e]
      exact ⟨by omega, by omega, hr.other (by omega)⟩
    · have := h4 p (by omega)
      rw [if_neg e, if_neg e]
      exact ⟨this.1, this.2.1, (this.2.2.gw hg).other this.2.1⟩
  · dsimp only
    rw [if_neg (show ¬p = k by omega)]
    by_cases e : q = k
    · rw [if_pos e]
      have := (h4 p (by omega)).2.2.lt
      omega
    · rw [if_neg e]
      exact h5 p q hpq (by omega)
/-- A cell of a row is set. -/
theorem TabK.put {w : World} {base g : Nat} {B : Nat → Nat} {T : Nat → Nat → Bool} {k : Nat} (h : TabK w base g B T k) {p j : Nat} (hp : p < k) (hj : j < 168) (v : Bool) :
    TabK (w.setCell ⟨B p, j, none⟩ (.bool v)) base g B (fun q i => if q = p ∧ i = j then v else T q i) k := by
  obtain ⟨h1, ⟨cs, h2, h3⟩, h4, h5⟩ := h
  refine ⟨h1, ⟨cs, h2.other (Ne.symm (h4 p hp).2.1), h3⟩, fun q hq => ?_, h5⟩
  have := h4 q hq
  refine ⟨this.1, this.2.1, ?_⟩
  by_cases e : q = p
  · subst e
    have r := this.2.2.set v hj
    refine cast ?_ r
    congr 1
    funext i
    simp
  · have hne : B p ≠ B q := by
      rcases Nat.lt_or_ge p q with g | g
      · exact h5 p q g hq
      · exact Ne.symm (h5 q p (by omega) hp)
    refine cast ?_ (this.2.2.other (j := j) (v := .bool v) hne)
    congr 1
    funext i
    simp [e]
theorem TabK.putAt {w : World} {base g b : Nat} {B : Nat → Nat} {T : Nat → Nat → Bool} {k : Nat} (h : TabK w base g B T k) {p j : Nat} (hp : p < k) (hj : j < 168) (v : Bool) (hb : B p = b) :
    TabK (w.setCell ⟨b, j, none⟩ (.bool v)) base g B (fun q i => if q = p ∧ i = j then v else T q i) k := by
  subst hb
  exact h.put hp hj v
theorem TabK.putGw {w : World} {base g : Nat} {B : Nat → Nat} {T : Nat → Nat → Bool} {k : Nat} (h : TabK w base g B T k) {p : Nat} (hp : p < k) (j : Nat) (v : Value) {u : World} (hu : Gw u w) (hb : u.heap.size ≤ base) : Gw u (w.setCell ⟨B p, j, none⟩ v) :=
  hu.set (by have := (h.2.2.1 p hp).1; exact Nat.le_trans hb this) v
theorem TabK.ext {w : World} {base g : Nat} {B : Nat → Nat} {T U : Nat → Nat → Bool} {k : Nat} (h : TabK w base g B T k) (he : ∀ p, p < k → ∀ j, j < 168 → T p j = U p j) : TabK w base g B U k := by
  obtain ⟨h1, h2, h4, h5⟩ := h
  refine ⟨h1, h2, fun p hp => ⟨(h4 p hp).1, (h4 p hp).2.1, ?_⟩, h5⟩
  obtain ⟨cs, b, r⟩ := (h4 p hp).2.2
  exact ⟨cs, b, fun j hj => by rw [r j hj, he p hp j hj]⟩
end Go.Proofs.YtgbgmmdpldekbaaDoor
