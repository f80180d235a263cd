/-
  The performers that an editor touched: plain.
-/
import Derived.Test.YtoofpajeogllhaaSqP
namespace Go.Proofs.Ytoofpajeogllhaa
open Go.RowKit

def putL : List Int → Int → List Int
  | [], n => [n]
  | x :: l, n => if x < n then x :: putL l n else if x = n then x :: l else n :: x :: l
theorem mem_putL {l : List Int} {n y : Int} : y ∈ putL l n ↔ y = n ∨ y ∈ l := by
  induction l with
  | nil => simp [putL]
  | cons x l ih =>
    unfold putL
    split
    · simp only [List.mem_cons, ih]
      constructor
      · rintro (h | h | h) <;> simp [h]
      · rintro (h | h | h) <;> simp [h]
    · split
      · rename_i h
        subst h
        simp only [List.mem_cons]
        constructor
        · intro h; exact .inr h
        · rintro (h | h)
          · exact .inl h
          · exact h
      · simp only [List.mem_cons]
theorem putL_sorted {l : List Int} {n : Int} (h : l.Pairwise (· < ·)) : (putL l n).Pairwise (· < ·) := by
  induction l with
  | nil => simp [putL]
  | cons x l ih =>
    rw [List.pairwise_cons] at h
    unfold putL
    split
    · rename_i hx
      rw [List.pairwise_cons]
      refine ⟨fun y hy => ?_, ih h.2⟩
      rcases mem_putL.1 hy with rfl | hy
      · exact hx
      · exact h.1 y hy
    · split
      · exact List.pairwise_cons.2 h
      · rename_i h1 h2
        rw [List.pairwise_cons]
        refine ⟨fun y hy => ?_, List.pairwise_cons.2 h⟩
        rcases List.mem_cons.1 hy with rfl | hy
        · omega
        · have := h.1 y hy; omega
theorem putL_len (l : List Int) (n : Int) : (putL l n).length ≤ l.length + 1 := by
  induction l with
  | nil => simp [putL]
  | cons x l ih =>
    unfold putL
    split
    · simp only [List.length_cons]; omega
    · split <;> simp
theorem putL_at : ∀ {l : List Int} {n : Int} {k : Nat}, (∀ j x, j < k → l[j]? = some x → x < n) → (∀ x, l[k]? = some x → ¬x < n) → k ≤ l.length → putL l n = if l[k]? = some n then l else l.take k ++ [n] ++ l.drop k
  | [], n, k, _, _, hk => by
    have : k = 0 := by simpa using hk
    subst this
    simp [putL]
  | x :: l, n, 0, _, h2, _ => by
    have hx := h2 x rfl
    unfold putL
    rw [if_neg hx]
    by_cases h : x = n
    · subst h; simp
    · rw [if_neg h, if_neg (by simpa using h)]; simp
  | x :: l, n, k + 1, h1, h2, hk => by
    have hx := h1 0 x (by omega) rfl
    unfold putL
    rw [if_pos hx, putL_at (l := l) (n := n) (k := k) (fun j y hj hy => h1 (j + 1) y (by omega) (by simpa using hy)) (fun y hy => h2 y (by simpa using hy)) (by simpa using hk)]
    simp only [List.getElem?_cons_succ, List.take_succ_cons, List.drop_succ_cons]
    split <;> simp
theorem sorted_same : ∀ {l m : List Int}, l.Pairwise (· < ·) → m.Pairwise (· < ·) → (∀ x, x ∈ l ↔ x ∈ m) → l = m
  | [], [], _, _, _ => rfl
  | [], y :: m, _, _, h => absurd ((h y).2 (by simp)) (by simp)
  | x :: l, [], _, _, h => absurd ((h x).1 (by simp)) (by simp)
  | x :: l, y :: m, hl, hm, h => by
    rw [List.pairwise_cons] at hl hm
    have hxy : x = y := by
      have h1 := (h x).1 (by simp)
      have h2 := (h y).2 (by simp)
      simp only [List.mem_cons] at h1 h2
      rcases h1 with h1 | h1
      · exact h1
      · rcases h2 with h2 | h2
        · exact h2.symm
        · have := hm.1 x h1; have := hl.1 y h2; omega
    subst hxy
    rw [sorted_same hl.2 hm.2 (fun z => by
      have hz := h z
      simp only [List.mem_cons] at hz
      constructor
      · intro g
        rcases hz.1 (.inr g) with e | e
        · have := hl.1 z g; omega
        · exact e
      · intro g
        rcases hz.2 (.inr g) with e | e
        · have := hm.1 z g; omega
        · exact e)]
def upN : Nat → List Int
  | 0 => []
  | k + 1 => upN k ++ [(k : Int)]
theorem mem_upN {k : Nat} {x : Int} : x ∈ upN k ↔ 0 ≤ x ∧ x < k := by
  induction k with
  | zero => simp only [upN, List.not_mem_nil, false_iff]; omega
  | succ k ih => simp only [upN, List.mem_append, List.mem_singleton, ih]; omega
theorem upN_sorted (k : Nat) : (upN k).Pairwise (· < ·) := by
  induction k with
  | zero => simp [upN]
  | succ k ih =>
    rw [upN, List.pairwise_append]
    refine ⟨ih, by simp, fun a ha b hb => ?_⟩
    have := mem_upN.1 ha
    simp at hb
    omega
theorem upN_len (k : Nat) : (upN k).length = k := by
  induction k with
  | zero => rfl
  | succ k ih => simp [upN, ih]
abbrev TchP (l : List Ed) (n i : Int) : Prop := ∃ e ∈ l, e.1 = n ∧ e.2.1 = i
open Classical in
noncomputable def tchTo (l : List Ed) (n : Int) (k : Nat) : List Int := (upN k).filter (fun i => decide (TchP l n i))
theorem tchTo_len (l : List Ed) (n : Int) (k : Nat) : (tchTo l n k).length ≤ k := by
  have := List.length_filter_le (fun i => decide (TchP l n i)) (upN k)
  rw [upN_len] at this
  exact this
theorem mem_tchTo {l : List Ed} {n x : Int} {k : Nat} : x ∈ tchTo l n k ↔ (0 ≤ x ∧ x < k) ∧ TchP l n x := by
  unfold tchTo
  rw [List.mem_filter, mem_upN]
  simp
theorem tchTo_sorted (l : List Ed) (n : Int) (k : Nat) : (tchTo l n k).Pairwise (· < ·) := (upN_sorted k).filter _
theorem tchTo_yes {l : List Ed} {n : Int} {k : Nat} (h : TchP l n k) : tchTo l n (k + 1) = tchTo l n k ++ [(k : Int)] := by
  unfold tchTo
  rw [upN, List.filter_append, List.filter_cons, if_pos (by simpa using h)]
  rfl
theorem tchTo_no {l : List Ed} {n : Int} {k : Nat} (h : ¬TchP l n k) : tchTo l n (k + 1) = tchTo l n k := by
  unfold tchTo
  rw [upN, List.filter_append, List.filter_cons, if_neg (by simpa using h)]
  simp
theorem tchTo_put {l : List Ed} {n : Int} {k : Nat} {x : Ed} (hx : l[k]? = some x) (hn : x.1 = n) (hp : 0 ≤ x.2.1 ∧ x.2.1 < 12) : tchTo (l.take (k + 1)) n 12 = putL (tchTo (l.take k) n 12) x.2.1 := by
  refine sorted_same (tchTo_sorted _ _ _) (putL_sorted (tchTo_sorted _ _ _)) (fun y => ?_)
  rw [mem_putL, mem_tchTo, mem_tchTo, take_succ_of hx]
  constructor
  · rintro ⟨h1, e, he, h2, h3⟩
    rcases List.mem_append.1 he with he | he
    · exact .inr ⟨h1, e, he, h2, h3⟩
    · rw [List.mem_singleton] at he; subst he; exact .inl h3.symm
  · rintro (rfl | ⟨h1, e, he, h2, h3⟩)
    · exact ⟨by omega, x, by simp, hn, rfl⟩
    · exact ⟨h1, e, List.mem_append_left _ he, h2, h3⟩
theorem tchTo_skip {l : List Ed} {n : Int} {k : Nat} {x : Ed} (hx : l[k]? = some x) (hn : x.1 ≠ n) (m : Nat) : tchTo (l.take (k + 1)) n m = tchTo (l.take k) n m := by
  refine sorted_same (tchTo_sorted _ _ _) (tchTo_sorted _ _ _) (fun y => ?_)
  rw [mem_tchTo, mem_tchTo, take_succ_of hx]
  constructor
  · rintro ⟨h1, e, he, h2, h3⟩
    rcases List.mem_append.1 he with he | he
    · exact ⟨h1, e, he, h2, h3⟩
    · rw [List.mem_singleton] at he; subst he; exact absurd h2 hn
  · rintro ⟨h1, e, he, h2, h3⟩
    exact ⟨h1, e, List.mem_append_left _ he, h2, h3⟩
open Classical in
noncomputable def touchF (l : List Ed) (n : Int) : List Int × Bool := if EditsP l ∧ InR n 1 9 then (tchTo l n 12, true) else ([], false)
theorem touchF_bad {l : List Ed} {n : Int} (h : ¬(EditsP l ∧ InR n 1 9)) : touchF l n = ([], false) := by unfold touchF; rw [if_neg h]
theorem touchF_good {l : List Ed} {n : Int} (h : EditsP l ∧ InR n 1 9) : touchF l n = (tchTo l n 12, true) := by unfold touchF; rw [if_pos h]
theorem touchF_len (l : List Ed) (n : Int) : (touchF l n).1.length ≤ 1048576 := by
  unfold touchF
  split
  · have := tchTo_len l n 12; dsimp only; omega
  · simp
end Go.Proofs.Ytoofpajeogllhaa
