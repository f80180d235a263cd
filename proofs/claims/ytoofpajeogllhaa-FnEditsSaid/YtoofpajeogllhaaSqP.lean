/-
  Edits squashed into one a performer: plain.
-/
import Derived.Test.YtoofpajeogllhaaLastT
namespace Go.Proofs.Ytoofpajeogllhaa
open Go.RowKit

abbrev Ed := Int × Int × Int × Int × Int × Int
abbrev byP (p : Int) : Ed → Bool := fun x => x.2.1 == p
def chainP (l : List Ed) (p : Int) : List Ed := l.filter (byP p)
/-- y goes on where x went to. -/
abbrev Fol (x y : Ed) : Prop := x.2.2.2.2.1 = y.2.2.1 ∧ x.2.2.2.2.2 = y.2.2.2.1
def Lk (c : List Ed) : Prop := ∀ j x y, c[j]? = some x → c[j + 1]? = some y → Fol x y
theorem Lk.nil : Lk [] := fun j x y h => by simp at h
theorem Lk.left {a b : List Ed} (h : Lk (a ++ b)) : Lk a := fun j x y hx hy =>
  h j x y (by rw [List.getElem?_append_left (List.getElem?_eq_some_iff.1 hx).1]; exact hx) (by rw [List.getElem?_append_left (List.getElem?_eq_some_iff.1 hy).1]; exact hy)
theorem Lk.snoc {c : List Ed} {y : Ed} : Lk (c ++ [y]) ↔ Lk c ∧ ∀ x, c.getLast? = some x → Fol x y := by
  constructor
  · intro h
    refine ⟨h.left, fun x hx => ?_⟩
    rw [List.getLast?_eq_getElem?] at hx
    have hl := (List.getElem?_eq_some_iff.1 hx).1
    refine h (c.length - 1) x y (by rw [List.getElem?_append_left hl]; exact hx) ?_
    rw [List.getElem?_append_right (by omega), show c.length - 1 + 1 - c.length = 0 by omega]
    rfl
  · rintro ⟨h, hy⟩ j x z hx hz
    have hjl := (List.getElem?_eq_some_iff.1 hz).1
    rw [List.length_append, List.length_singleton] at hjl
    by_cases hj : j + 1 < c.length
    · rw [List.getElem?_append_left hj] at hz
      rw [List.getElem?_append_left (by omega)] at hx
      exact h j x z hx hz
    · have hje : j + 1 = c.length := by omega
      rw [List.getElem?_append_right (by omega), hje, Nat.sub_self] at hz
      rw [List.getElem?_append_left (by omega)] at hx
      simp at hz
      subst hz
      exact hy x (by rw [List.getLast?_eq_getElem?, show c.length - 1 = j by omega]; exact hx)
theorem chain_snoc {l : List Ed} {k : Nat} {x : Ed} {p : Int} (hx : l[k]? = some x) : chainP (l.take (k + 1)) p = if x.2.1 = p then chainP (l.take k) p ++ [x] else chainP (l.take k) p := by
  unfold chainP
  rw [take_succ_of hx, List.filter_append]
  by_cases h : x.2.1 = p
  · rw [if_pos h]; simp [byP, h]
  · rw [if_neg h]; simp [byP, h]
theorem chain_take (l : List Ed) (k : Nat) (p : Int) : ∃ r, chainP l p = chainP (l.take k) p ++ r := by
  unfold chainP
  refine ⟨(l.drop k).filter (byP p), ?_⟩
  rw [← List.filter_append, List.take_append_drop]
/-- The last of a chain is where the last index points to. -/
theorem last_chain (l : List Ed) (p : Int) : ∀ k, k ≤ l.length → (lastTo (byP p) l k = -1 ∧ chainP (l.take k) p = []) ∨ ∃ (j : Nat) (x : Ed), lastTo (byP p) l k = j ∧ j < k ∧ l[j]? = some x ∧ (chainP (l.take k) p).getLast? = some x
  | 0, _ => .inl ⟨rfl, by simp [chainP]⟩
  | k + 1, hk => by
    obtain ⟨x, hx⟩ := get_of_lt (l := l) (k := k) (by omega)
    rw [chain_snoc hx]
    by_cases h : x.2.1 = p
    · rw [if_pos h, lastTo_yes hx (by simp [h])]
      exact .inr ⟨k, x, rfl, by omega, hx, by simp⟩
    · rw [if_neg h, lastTo_no hx (by simp [h])]
      rcases last_chain l p k (by omega) with h' | ⟨j, y, h1, h2, h3, h4⟩
      · exact .inl h'
      · exact .inr ⟨j, y, h1, by omega, h3, h4⟩
/-- The first of a chain. -/
theorem head_chain {l : List Ed} {p : Int} : ∀ {k : Nat} {x : Ed}, l[k]? = some x → x.2.1 = p → (∀ j y, j < k → l[j]? = some y → y.2.1 ≠ p) → (chainP l p).head? = some x := by
  induction l with
  | nil => intro k x h; simp at h
  | cons a l ih =>
    intro k x hx hp hn
    unfold chainP
    cases k with
    | zero =>
      simp at hx
      subst hx
      rw [List.filter_cons, if_pos (by simp [hp])]
      rfl
    | succ k =>
      have ha := hn 0 a (by omega) rfl
      rw [List.filter_cons, if_neg (by simpa using ha)]
      exact ih (by simpa using hx) hp (fun j y hj hy => hn (j + 1) y (by omega) (by simpa using hy))
/-- One edit for a chain. -/
def sqOne (c : List Ed) : List Ed :=
  match c.head?, c.getLast? with
  | some f, some z => if f.2.2.1 = z.2.2.2.2.1 ∧ f.2.2.2.1 = z.2.2.2.2.2 then [] else [(z.1, f.2.1, f.2.2.1, f.2.2.2.1, z.2.2.2.2.1, z.2.2.2.2.2)]
  | _, _ => []
theorem sqOne_nil : sqOne [] = [] := rfl
theorem sqOne_eq {c : List Ed} {f z : Ed} (hf : c.head? = some f) (hz : c.getLast? = some z) (h : f.2.2.1 = z.2.2.2.2.1 ∧ f.2.2.2.1 = z.2.2.2.2.2) : sqOne c = [] := by unfold sqOne; rw [hf, hz]; simp [h]
theorem sqOne_ne {c : List Ed} {f z : Ed} (hf : c.head? = some f) (hz : c.getLast? = some z) (h : ¬(f.2.2.1 = z.2.2.2.2.1 ∧ f.2.2.2.1 = z.2.2.2.2.2)) : sqOne c = [(z.1, f.2.1, f.2.2.1, f.2.2.2.1, z.2.2.2.2.1, z.2.2.2.2.2)] := by unfold sqOne; rw [hf, hz]; simp [h]
theorem sqOne_len (c : List Ed) : (sqOne c).length ≤ 1 := by
  unfold sqOne
  split
  · split <;> simp
  · simp
def sqTo (l : List Ed) : Nat → List Ed
  | 0 => []
  | k + 1 => sqTo l k ++ sqOne (chainP l (k : Int))
theorem sqTo_len (l : List Ed) : ∀ k, (sqTo l k).length ≤ k
  | 0 => by simp [sqTo]
  | k + 1 => by have := sqTo_len l k; have := sqOne_len (chainP l (k : Int)); unfold sqTo; rw [List.length_append]; omega
abbrev LkAll (l : List Ed) : Prop := ∀ p : Int, Lk (chainP l p)
open Classical in
noncomputable def squashF (l : List Ed) : List Ed × Bool := if EditsP l ∧ LkAll l then (sqTo l 12, true) else ([], false)
theorem squashF_bad {l : List Ed} (h : ¬(EditsP l ∧ LkAll l)) : squashF l = ([], false) := by unfold squashF; rw [if_neg h]
theorem squashF_good {l : List Ed} (h : EditsP l ∧ LkAll l) : squashF l = (sqTo l 12, true) := by unfold squashF; rw [if_pos h]
theorem squashF_len (l : List Ed) : (squashF l).1.length ≤ 1048576 := by
  unfold squashF
  split
  · have := sqTo_len l 12; dsimp only; omega
  · simp
theorem lkAll_zero (l : List Ed) : LkAll (l.take 0) := fun p => by simp [chainP]; exact Lk.nil
theorem lkAll_succ {l : List Ed} {k : Nat} {x : Ed} (hx : l[k]? = some x) (h : LkAll (l.take k)) (hn : ∀ y, (chainP (l.take k) x.2.1).getLast? = some y → Fol y x) : LkAll (l.take (k + 1)) := by
  intro p
  rw [chain_snoc hx]
  by_cases hp : x.2.1 = p
  · subst hp
    rw [if_pos rfl]
    exact Lk.snoc.2 ⟨h _, hn⟩
  · rw [if_neg hp]; exact h p
theorem lk_bad {l : List Ed} {k : Nat} {x y : Ed} (hx : l[k]? = some x) (hy : (chainP (l.take k) x.2.1).getLast? = some y) (hn : ¬Fol y x) : ¬LkAll l := by
  intro h
  obtain ⟨r, hr⟩ := chain_take l (k + 1) x.2.1
  have h1 := h x.2.1
  rw [hr, chain_snoc hx, if_pos rfl] at h1
  exact hn ((Lk.snoc.1 h1.left).2 y hy)
/-- Chains of performers that are none have no edit. -/
theorem lkAll_of {l : List Ed} (hE : EditsP l) (h : ∀ p : Nat, p < 12 → Lk (chainP l (p : Int))) : LkAll l := by
  intro p
  by_cases hp : 0 ≤ p ∧ p < 12
  · obtain ⟨n, rfl⟩ : ∃ n : Nat, p = n := ⟨p.toNat, by omega⟩
    exact h n (by omega)
  · have : chainP l p = [] := by
      unfold chainP
      rw [List.filter_eq_nil_iff]
      intro x hx
      have := (hE.1 x hx).2.1
      simp
      omega
    rw [this]
    exact Lk.nil
end Go.Proofs.Ytoofpajeogllhaa
