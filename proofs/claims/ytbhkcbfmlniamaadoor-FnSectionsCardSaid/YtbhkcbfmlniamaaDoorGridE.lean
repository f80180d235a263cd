/-
  RowsOf: how long the lists are, and a list of lists beside other writes.
-/
import Derived.Test.YtbhkcbfmlniamaaDoorGridD
namespace Go.Proofs.YtbhkcbfmlniamaaDoor
open Go.RowKit

theorem sum_le_of {n : Nat} : ∀ {ns : List Nat}, (∀ x ∈ ns, x ≤ n) → ns.sum ≤ n * ns.length
  | [], _ => by simp
  | x :: ns, h => by
    have h1 := h x (List.mem_cons_self ..)
    have h2 := sum_le_of (ns := ns) (fun y hy => h y (List.mem_cons_of_mem _ hy))
    simp only [List.sum_cons, List.length_cons, Nat.mul_succ]
    omega
theorem rowsTo_row {l : List Sec} {w : Nat} : ∀ k, ∀ r ∈ rowsTo l w k, r.length ≤ w
  | 0, r, h => by simp [rowsTo] at h
  | k + 1, r, h => by
    rcases List.mem_append.1 h with h | h
    · exact rowsTo_row k r h
    · obtain ⟨j, _, rfl⟩ := List.mem_map.1 h
      unfold rowAt
      rw [fromN_len]
      omega
theorem rowsF_bd (l : List Sec) (wd : Int) : (rowsF l wd).1.length ≤ 600 ∧ ∀ r ∈ (rowsF l wd).1, r.length ≤ 12 := by
  unfold rowsF
  split
  · rename_i h
    obtain ⟨hp, h1, h2⟩ := h
    have hs : ∀ x ∈ l, 1 ≤ x.2.1 ∧ x.2.1 ≤ 60 := fun x hx => (hp.1 x hx).2.1
    have h3 := rowsTo_len (w := wd.toNat) (by omega) hs l.length (Nat.le_refl _)
    have h4 := hp.2.2.1.2
    exact ⟨by show (rowsTo l wd.toNat l.length).length ≤ 600; omega, fun r hr => by have := rowsTo_row _ r hr; omega⟩
  · exact ⟨by simp, fun r hr => by simp at hr⟩
theorem rowsF_sum (l : List Sec) (wd : Int) : (((rowsF l wd).1.map flat).map List.length).sum ≤ 1048576 := by
  obtain ⟨h1, h2⟩ := rowsF_bd l wd
  have h3 : ∀ x ∈ ((rowsF l wd).1.map flat).map List.length, x ≤ 12 := by
    intro x hx
    simp only [List.map_map, List.mem_map, Function.comp] at hx
    obtain ⟨r, hr, rfl⟩ := hx
    rw [flat_len]
    have := h2 r hr
    simp only [show Flat.sz Int = 1 from rfl]
    omega
  have h4 := sum_le_of h3
  simp only [List.length_map] at h4
  omega
theorem rowsF_len1 (l : List Sec) (wd : Int) : (rowsF l wd).1.length ≤ 1048576 := by have := (rowsF_bd l wd).1; omega
theorem rowsF_len2 (l : List Sec) (wd : Int) : ∀ r ∈ (rowsF l wd).1, r.length ≤ 1048576 := fun r hr => by have := (rowsF_bd l wd).2 r hr; omega
theorem OwnSS.len' {w : World} {base : Nat} {A : Option Addr} {c : Nat} {sv : List SV} {rs : List (List Int)} (h : OwnSS w base A c sv (rs.map flat)) : sv.length = rs.length := by simpa using h.len
theorem Gw.below_ {a b c : World} {base : Nat} (h : Gw a b) (hb : Below base b c) (hl : a.heap.size ≤ base) : Gw a c := Below.trans h (Below.mono hb hl)
theorem Gw.grown_ {a b c : World} {row : Option Nat} (h : Gw a b) (hg : b.grownBy c row) {lo hi : Nat} (hr : ∀ k, row = some k → lo ≤ k ∧ k < hi) (hl : a.heap.size ≤ lo) : Gw a c := h.grown hg (fun k hk => by have := hr k hk; omega)
end Go.Proofs.YtbhkcbfmlniamaaDoor
