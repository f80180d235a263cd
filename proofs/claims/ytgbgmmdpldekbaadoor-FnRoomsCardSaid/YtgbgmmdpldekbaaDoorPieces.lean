/-
  Lines and words of a text: plain.
-/
import Derived.Test.YtgbgmmdpldekbaaDoorParseW
namespace Go.Proofs.YtgbgmmdpldekbaaDoor

def word (line : ByteArray) (k : Nat) : List UInt8 := (pieces 32 line.data.toList).getD k []
def L3 (line : ByteArray) : Prop := (pcs 32 line).length = 3
theorem L3.words {x : ByteArray} (h : L3 x) : pieces 32 x.data.toList = [word x 0, word x 1, word x 2] := by
  have h' : (pieces 32 x.data.toList).length = 3 := by have := h; unfold L3 pcs at this; rwa [List.length_map] at this
  unfold word
  match hp : pieces 32 x.data.toList, h' with
  | [a, b, c], _ => rfl
theorem L3.pcs {x : ByteArray} (h : L3 x) : pcs 32 x = [toB (word x 0), toB (word x 1), toB (word x 2)] := by
  unfold Go.Proofs.YtgbgmmdpldekbaaDoor.pcs
  rw [h.words]
  rfl
theorem L3.join {x : ByteArray} (h : L3 x) : x.data.toList = word x 0 ++ 32 :: (word x 1 ++ 32 :: word x 2) := by
  have := join_pieces 32 x.data.toList
  rw [h.words] at this
  exact this.symm
theorem pcs_ne (c : UInt8) (s : ByteArray) : pcs c s ≠ [] := by
  unfold pcs
  simp [pieces_ne]
theorem pcs_join {s : ByteArray} {ls : List ByteArray} {z : ByteArray} (h : pcs 10 s = ls ++ [z]) : s.data.toList = (ls.map (·.data.toList ++ [10])).flatten ++ z.data.toList := by
  have hp : pieces 10 s.data.toList = (ls.map (·.data.toList)) ++ [z.data.toList] := by
    have := congrArg (List.map (·.data.toList)) h
    unfold pcs at this
    rw [List.map_map] at this
    have e : ((fun x : ByteArray => x.data.toList) ∘ toB) = id := by funext x; rfl
    rw [e, List.map_id] at this
    rw [this]
    simp
  have hj := join_ends 10 (pieces_ne 10 s.data.toList)
  rw [join_pieces, hp] at hj
  rw [hj]
  simp [List.map_map, Function.comp_def]
/-- The lines of a text that ends with a line's end. -/
def linesF (s : ByteArray) : List ByteArray × Bool :=
  if s.size = 0 then ([], true) else if s.data.toList.getLast? = some 10 then (pcs 10 (s.extract 0 (s.size - 1)), true) else ([], false)
theorem snoc_of {s : ByteArray} (h : ¬s.size = 0) : ∃ l b, s.data.toList = l ++ [b] := by
  rcases List.eq_nil_or_concat s.data.toList with e | ⟨l, b, e⟩
  · have := size_data s
    rw [e] at this
    exact absurd this.symm h
  · exact ⟨l, b, by rw [e, List.concat_eq_append]⟩
theorem lines_yes {s : ByteArray} (h : (linesF s).2 = true) : pcs 10 s = (linesF s).1 ++ [toB []] := by
  unfold linesF at h ⊢
  by_cases h0 : s.size = 0
  · rw [if_pos h0]
    have : s.data.toList = [] := List.length_eq_zero_iff.1 (by rw [size_data]; exact h0)
    unfold pcs
    rw [this]
    rfl
  · rw [if_neg h0] at h ⊢
    obtain ⟨l, b, e⟩ := snoc_of h0
    rw [e] at h ⊢
    rw [List.getLast?_concat] at h ⊢
    by_cases hb : b = 10
    · subst hb
      rw [if_pos rfl]
      have hl : (s.extract 0 (s.size - 1)).data.toList = l := by
        rw [Lib.extract_data, e, ← size_data s, e]
        simp
      unfold pcs
      rw [e, hl, pieces_snoc_sep]
      simp
    · rw [if_neg (by simpa using hb)] at h
      cases h
theorem lines_no {s : ByteArray} (h : (linesF s).2 = false) : ∀ ls, pcs 10 s ≠ ls ++ [toB []] := by
  intro ls hc
  unfold linesF at h
  by_cases h0 : s.size = 0
  · rw [if_pos h0] at h; cases h
  · rw [if_neg h0] at h
    obtain ⟨l, b, e⟩ := snoc_of h0
    rw [e, List.getLast?_concat] at h
    by_cases hb : b = 10
    · rw [if_pos (by rw [hb])] at h; cases h
    · obtain ⟨ps, p, hp⟩ := pieces_snoc_ne hb l
      unfold pcs at hc
      rw [e, hp, List.map_append] at hc
      have := congrArg List.getLast? hc
      rw [List.map_cons, List.map_nil, List.getLast?_concat, List.getLast?_concat, Option.some.injEq] at this
      have h2 := congrArg (fun x : ByteArray => x.data.toList) this
      simp [toB_data] at h2
theorem dropLast_of {s : ByteArray} {ls : List ByteArray} {z : ByteArray} (h : pcs 10 s = ls ++ [z]) : (pcs 10 s).dropLast = ls := by rw [h, List.dropLast_concat]
open Classical in
noncomputable def numsF (n : Nat) (x : ByteArray) : List Int × Bool := if (pcs 32 x).length = n ∧ ∀ p ∈ pieces 32 x.data.toList, (natF p).2 = true then ((pieces 32 x.data.toList).map fun p => (natF p).1, true) else ([], false)
theorem numsF_yes {n : Nat} {x : ByteArray} (h : (pcs 32 x).length = n ∧ ∀ p ∈ pieces 32 x.data.toList, (natF p).2 = true) : numsF n x = ((pieces 32 x.data.toList).map fun p => (natF p).1, true) := by unfold numsF; rw [if_pos h]
theorem numsF_no {n : Nat} {x : ByteArray} (h : ¬((pcs 32 x).length = n ∧ ∀ p ∈ pieces 32 x.data.toList, (natF p).2 = true)) : numsF n x = ([], false) := by unfold numsF; rw [if_neg h]
end Go.Proofs.YtgbgmmdpldekbaaDoor
