/-
  Edits that lead from one chart to another: plain.
-/
import Derived.Test.YtoofpajeogllhaaApply
import Derived.Test.YtoofpajeogllhaaSqP
namespace Go.Proofs.Ytoofpajeogllhaa
open Go.RowKit

abbrev Sp := Int × Int
def diffTo (now b : List Sp) (k : Nat) : List Nat := (List.range k).filter (fun i => decide (now[i]? ≠ b[i]?))
abbrev diffs (now b : List Sp) : List Nat := diffTo now b now.length
def free (now b : List Sp) (i : Nat) : Bool := match b[i]? with
  | some y => decide (y ∉ now)
  | none => false
def mkE (ed : Int) (now b : List Sp) (i : Nat) : Ed := match now[i]?, b[i]? with
  | some x, some y => (ed, (i : Int), x.1, x.2, y.1, y.2)
  | _, _ => (0, 0, 0, 0, 0, 0)
def stepB (now b : List Sp) (i : Nat) : List Sp := match b[i]? with
  | some y => now.set i y
  | none => now
def btGo (ed : Int) (b : List Sp) : Nat → List Sp → List Ed → Option (List Ed)
  | 0, now, acc => if diffs now b = [] then some acc else none
  | n + 1, now, acc => if diffs now b = [] then some acc else match (diffs now b).find? (free now b) with
    | none => none
    | some i => btGo ed b n (stepB now b i) (acc ++ [mkE ed now b i])
theorem free_at {now b : List Sp} {i : Nat} {y : Sp} (h : b[i]? = some y) : free now b i = decide (y ∉ now) := by unfold free; rw [h]
theorem mkE_at {ed : Int} {now b : List Sp} {i : Nat} {x y : Sp} (hx : now[i]? = some x) (hy : b[i]? = some y) : mkE ed now b i = (ed, (i : Int), x.1, x.2, y.1, y.2) := by unfold mkE; rw [hx, hy]
theorem stepB_at {now b : List Sp} {i : Nat} {y : Sp} (h : b[i]? = some y) : stepB now b i = now.set i y := by unfold stepB; rw [h]
theorem btGo_end {ed : Int} {b now : List Sp} {acc : List Ed} (n : Nat) (h : diffs now b = []) : btGo ed b n now acc = some acc := by
  cases n <;> simp only [btGo, if_pos h]
theorem btGo_no {ed : Int} {b now : List Sp} {acc : List Ed} (n : Nat) (h : diffs now b ≠ []) (hf : (diffs now b).find? (free now b) = none) : btGo ed b n now acc = none := by
  cases n with
  | zero => simp only [btGo, if_neg h]
  | succ n => simp only [btGo, if_neg h, hf]
theorem btGo_len {ed : Int} {b : List Sp} : ∀ (n : Nat) (now : List Sp) (acc r : List Ed), btGo ed b n now acc = some r → r.length ≤ acc.length + n
  | 0, now, acc, r, h => by
    unfold btGo at h
    split at h
    · cases h; omega
    · cases h
  | n + 1, now, acc, r, h => by
    unfold btGo at h
    split at h
    · cases h; omega
    · split at h
      · cases h
      · have := btGo_len n _ _ _ h
        simp at this
        omega
theorem diffTo_succ_yes {now b : List Sp} {k : Nat} (h : now[k]? ≠ b[k]?) : diffTo now b (k + 1) = diffTo now b k ++ [k] := by
  unfold diffTo
  rw [List.range_succ, List.filter_append]
  simp [h]
theorem diffTo_succ_no {now b : List Sp} {k : Nat} (h : now[k]? = b[k]?) : diffTo now b (k + 1) = diffTo now b k := by
  unfold diffTo
  rw [List.range_succ, List.filter_append]
  simp [h]
theorem mem_diffTo {now b : List Sp} {k i : Nat} : i ∈ diffTo now b k ↔ i < k ∧ now[i]? ≠ b[i]? := by
  unfold diffTo
  rw [List.mem_filter, List.mem_range]
  simp
theorem diffTo_len (now b : List Sp) (k : Nat) : (diffTo now b k).length ≤ k := by
  have := List.length_filter_le (fun i => decide (now[i]? ≠ b[i]?)) (List.range k)
  rw [List.length_range] at this
  exact this
theorem filter_ne_of {l : List Nat} (hn : l.Nodup) {k i : Nat} (h : l[k]? = some i) : l.filter (fun j => decide (j ≠ i)) = l.take k ++ l.drop (k + 1) := by
  have hd := drop_of' h
  have e : l = l.take k ++ i :: l.drop (k + 1) := by rw [← hd, List.take_append_drop]
  rw [e] at hn
  rw [List.nodup_append] at hn
  obtain ⟨_, h2, h3⟩ := hn
  rw [List.nodup_cons] at h2
  conv => lhs; rw [e]
  rw [List.filter_append, List.filter_cons, if_neg (by simp)]
  congr 1
  · rw [List.filter_eq_self]
    intro j hj
    simpa using h3 j hj i (by simp)
  · rw [List.filter_eq_self]
    intro j hj
    have : j ≠ i := fun e => h2.1 (e ▸ hj)
    simpa using this
theorem diffTo_nodup (now b : List Sp) (k : Nat) : (diffTo now b k).Nodup := List.nodup_range.filter _
/-- One difference less. -/
theorem diffs_step {now b : List Sp} {k i : Nat} {y : Sp} (h : (diffs now b)[k]? = some i) (hy : b[i]? = some y) : diffs (now.set i y) b = (diffs now b).take k ++ (diffs now b).drop (k + 1) := by
  rw [← filter_ne_of (diffTo_nodup now b _) h]
  have hi := (mem_diffTo.1 (mem_of_get h)).1
  unfold diffs diffTo
  rw [List.length_set, List.filter_filter]
  apply List.filter_congr
  intro j hj
  rw [List.mem_range] at hj
  by_cases e : j = i
  · subst e
    rw [List.getElem?_set_self hi, hy]
    simp
  · rw [List.getElem?_set_ne (fun h => e h.symm)]
    simp [e]
theorem btGo_step {ed : Int} {b now : List Sp} {acc : List Ed} {k i : Nat} {x y : Sp} (h : (diffs now b)[k]? = some i) (hf : (diffs now b).find? (free now b) = some i) (hx : now[i]? = some x) (hy : b[i]? = some y) :
    btGo ed b (diffs now b).length now acc = btGo ed b (diffs (now.set i y) b).length (now.set i y) (acc ++ [(ed, (i : Int), x.1, x.2, y.1, y.2)]) := by
  have hk := (List.getElem?_eq_some_iff.1 h).1
  have hl : (diffs (now.set i y) b).length = (diffs now b).length - 1 := by
    rw [diffs_step h hy, List.length_append, List.length_take, List.length_drop]; omega
  obtain ⟨n, hn⟩ : ∃ n, (diffs now b).length = n + 1 := ⟨(diffs now b).length - 1, by omega⟩
  have hne : diffs now b ≠ [] := by intro e; rw [e] at hk; simp at hk
  rw [hn] at hl ⊢
  rw [show btGo ed b (n + 1) now acc = btGo ed b n (stepB now b i) (acc ++ [mkE ed now b i]) by simp only [btGo, if_neg hne, hf]]
  rw [stepB_at hy, mkE_at hx hy, hl]
  rfl
/-- The first free one among the differences seen so far, as a number. -/
def fcTo (now b : List Sp) (k : Nat) : Int := match (diffTo now b k).find? (free now b) with
  | some i => (i : Int)
  | none => -1
theorem find_snoc {l : List Nat} {f : Nat → Bool} {x : Nat} : (l ++ [x]).find? f = match l.find? f with
    | some y => some y
    | none => if f x then some x else none := by
  rw [List.find?_append]
  cases h : l.find? f with
  | some y => rfl
  | none => by_cases hx : f x <;> simp [hx]
theorem fcTo_same {now b : List Sp} {k : Nat} (h : now[k]? = b[k]?) : fcTo now b (k + 1) = fcTo now b k := by unfold fcTo; rw [diffTo_succ_no h]
theorem fcTo_had {now b : List Sp} {k : Nat} (h : 0 ≤ fcTo now b k) : fcTo now b (k + 1) = fcTo now b k := by
  by_cases hs : now[k]? = b[k]?
  · exact fcTo_same hs
  · unfold fcTo at *
    rw [diffTo_succ_yes hs, find_snoc]
    cases hq : (diffTo now b k).find? (free now b) with
    | some y => rfl
    | none => rw [hq] at h; dsimp only at h; omega
theorem fcTo_new {now b : List Sp} {k : Nat} (hs : now[k]? ≠ b[k]?) (h : ¬0 ≤ fcTo now b k) (hf : free now b k = true) : fcTo now b (k + 1) = k := by
  unfold fcTo at *
  rw [diffTo_succ_yes hs, find_snoc]
  cases hq : (diffTo now b k).find? (free now b) with
  | some y => rw [hq] at h; dsimp only at h; omega
  | none => dsimp only; rw [if_pos hf]
theorem fcTo_not {now b : List Sp} {k : Nat} (hs : now[k]? ≠ b[k]?) (h : ¬0 ≤ fcTo now b k) (hf : free now b k = false) : fcTo now b (k + 1) = fcTo now b k := by
  unfold fcTo at *
  rw [diffTo_succ_yes hs, find_snoc]
  cases hq : (diffTo now b k).find? (free now b) with
  | some y => rfl
  | none => dsimp only; rw [if_neg (by simp [hf])]
theorem fcTo_some {now b : List Sp} {k i : Nat} (h : fcTo now b k = i) : (diffTo now b k).find? (free now b) = some i := by
  unfold fcTo at h
  cases hq : (diffTo now b k).find? (free now b) with
  | some y => rw [hq] at h; dsimp only at h; congr 1; omega
  | none => rw [hq] at h; dsimp only at h; omega
theorem fcTo_none {now b : List Sp} {k : Nat} (h : ¬0 ≤ fcTo now b k) : (diffTo now b k).find? (free now b) = none := by
  unfold fcTo at h
  cases hq : (diffTo now b k).find? (free now b) with
  | some y => rw [hq] at h; dsimp only at h; omega
  | none => rfl
theorem fcTo_bd (now b : List Sp) (k : Nat) : -1 ≤ fcTo now b k ∧ fcTo now b k < k := by
  unfold fcTo
  cases hq : (diffTo now b k).find? (free now b) with
  | some y => have := (mem_diffTo.1 (List.mem_of_find?_eq_some hq)).1; dsimp only; omega
  | none => dsimp only; omega
/-- The program's search through the differences. -/
theorem find_at {l : List Nat} {f : Nat → Bool} : ∀ {k i : Nat}, AllTo (fun j => f j = false) l k → l[k]? = some i → f i = true → l.find? f = some i := by
  induction l with
  | nil => intro k i _ h; simp at h
  | cons a l ih =>
    intro k i ha h hf
    cases k with
    | zero => simp at h; subst h; simp [hf]
    | succ k =>
      have h0 := ha 0 a (by omega) rfl
      rw [List.find?_cons, h0]
      exact ih (k := k) (fun j y hj hy => ha (j + 1) y (by omega) (by simpa using hy)) (by simpa using h) hf
theorem find_no {l : List Nat} {f : Nat → Bool} (h : AllTo (fun j => f j = false) l l.length) : l.find? f = none := by
  rw [List.find?_eq_none]
  intro x hx
  have := AllTo.all h (Nat.le_refl _) x hx
  simp [this]
abbrev PairP (a b : List Sp) : Prop := (ChartP a ∧ ChartP b) ∧ a.length = b.length
open Classical in
noncomputable def betF (a b : List Sp) (ed : Int) : List Ed × Bool := if PairP a b ∧ InR ed 1 9 then (match btGo ed b (diffs a b).length a [] with | some r => (r, true) | none => ([], false)) else ([], false)
theorem betF_bad {a b : List Sp} {ed : Int} (h : ¬(PairP a b ∧ InR ed 1 9)) : betF a b ed = ([], false) := by unfold betF; rw [if_neg h]
theorem betF_some {a b : List Sp} {ed : Int} {r : List Ed} (h : PairP a b ∧ InR ed 1 9) (hr : btGo ed b (diffs a b).length a [] = some r) : betF a b ed = (r, true) := by unfold betF; rw [if_pos h, hr]
theorem betF_none {a b : List Sp} {ed : Int} (h : PairP a b ∧ InR ed 1 9) (hr : btGo ed b (diffs a b).length a [] = none) : betF a b ed = ([], false) := by unfold betF; rw [if_pos h, hr]
theorem betF_len (a b : List Sp) (ed : Int) : (betF a b ed).1.length ≤ 1048576 := by
  unfold betF
  split
  · rename_i h
    cases hr : btGo ed b (diffs a b).length a [] with
    | none => simp
    | some r =>
      have h1 := btGo_len _ _ _ _ hr
      have h2 := diffTo_len a b a.length
      have h3 := h.1.1.1.2.2
      rw [List.length_nil, Nat.zero_add] at h1
      show r.length ≤ 1048576
      have h4 : (diffs a b).length ≤ a.length := h2
      omega
  · simp
/-- Where two charts differ. -/
noncomputable def chgF (a b : List Sp) : List Nat × Bool := open Classical in if PairP a b then (diffs a b, true) else ([], false)
end Go.Proofs.Ytoofpajeogllhaa
