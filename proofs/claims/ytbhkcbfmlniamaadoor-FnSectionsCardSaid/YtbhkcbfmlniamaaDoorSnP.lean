/-
  Sections: each player belongs to one of them, rows hold all players in order; plain.
-/
import Derived.Test.YtbhkcbfmlniamaaDoorGridE
import Derived.Test.YtbhkcbfmlniamaaDoorRoundS
namespace Go.Proofs.YtbhkcbfmlniamaaDoor
open Go.RowKit

theorem ssum_take_succ {l : List Sec} {k : Nat} {x : Sec} (hx : l[k]? = some x) : ssum (l.take (k + 1)) = ssum (l.take k) + x.2.1 := by rw [take_succ_of hx, ssum_snoc]
theorem ssum_take_mono {l : List Sec} (h : ∀ x ∈ l, 1 ≤ x.2.1 ∧ x.2.1 ≤ 60) : ∀ {j k : Nat}, j ≤ k → ssum (l.take j) ≤ ssum (l.take k) := by
  intro j k hjk
  obtain ⟨d, rfl⟩ : ∃ d, k = j + d := ⟨k - j, by omega⟩
  clear hjk
  induction d with
  | zero => exact Int.le_refl _
  | succ d ih =>
    by_cases hd : j + d < l.length
    · obtain ⟨x, hx⟩ := get_of_lt hd
      have := ssum_take_succ hx
      have := (h x (mem_of_get hx)).1
      rw [show j + (d + 1) = j + d + 1 by omega]
      omega
    · rw [show l.take (j + (d + 1)) = l.take (j + d) by rw [List.take_of_length_le (by omega), List.take_of_length_le (by omega)]]
      exact ih
/-- A player of section k belongs to it. -/
theorem sect_at {l : List Sec} (hS : SecsP l) {k : Nat} {x : Sec} (hx : l[k]? = some x) {p : Int} (h0 : ssum (l.take k) ≤ p) (h1 : p < ssum (l.take k) + x.2.1) : sectF l p = ((k : Int), true) := by
  have hz := hS.size
  have hp0 : 0 ≤ p := by have := (take_bd hz k).1; omega
  have hk : k < l.length := (List.getElem?_eq_some_iff.1 hx).1
  have key : ∀ m, m ≤ k → secGo l p 0 = secGo (l.drop m) (p - ssum (l.take m)) (m : Int) := by
    intro m
    induction m with
    | zero => intro _; simp [ssum]
    | succ m ih =>
      intro hm
      obtain ⟨y, hy⟩ := get_of_lt (show m < l.length by omega)
      have hs := ssum_take_succ hy
      have hmono := ssum_take_mono hz (show m + 1 ≤ k by omega)
      rw [ih (by omega), secGo_next hy (by omega), hs, show p - ssum (l.take m) - y.2.1 = p - (ssum (l.take m) + y.2.1) by omega]
  rw [sectF_good hS hp0, key k (Nat.le_refl _), secGo_at hx (by omega)]
theorem mem_fromN {F p : Int} {n : Nat} : p ∈ fromN F n ↔ F ≤ p ∧ p < F + n := by
  unfold fromN
  simp only [List.mem_map, List.mem_range]
  constructor
  · rintro ⟨j, hj, rfl⟩; omega
  · rintro ⟨h1, h2⟩; exact ⟨(p - F).toNat, by omega, by omega⟩
theorem fromN_get {F : Int} {n j : Nat} (h : j < n) : (fromN F n)[j]? = some (F + (j : Int)) := by simp [fromN, h]
/-- The members of a section belong to it, and are as many as it has. -/
theorem memb_facts {l : List Sec} {i : Int} {m : List Int} (h : membF l i = (m, true)) : HasP l i ∧ (∃ x, l[i.toNat]? = some x ∧ (m.length : Int) = x.2.1) ∧ ∀ p ∈ m, (-9223372036854775808 ≤ p ∧ p ≤ 9223372036854775807) ∧ sectF l p = (i, true) := by
  by_cases hP : HasP l i
  · obtain ⟨k, rfl⟩ : ∃ k : Nat, i = k := ⟨i.toNat, by have := hP.2.1; omega⟩
    have hk : k < l.length := by have := hP.2.2; omega
    obtain ⟨x, hx⟩ := get_of_lt hk
    have hz := hP.1.size x (mem_of_get hx)
    rw [membF_good hP] at h
    obtain rfl : memb l k = m := (Prod.mk.inj h).1
    rw [memb_at hx]
    refine ⟨hP, ⟨x, by simpa using hx, by rw [fromN_len]; omega⟩, fun p hp => ?_⟩
    obtain ⟨h1, h2⟩ := mem_fromN.1 hp
    have hb := take_bd hP.1.size k
    have h10 := hP.1.2.2.1.2
    exact ⟨by omega, sect_at hP.1 hx h1 (by omega)⟩
  · rw [membF_bad hP] at h
    cases h
/-- Rows from player F on, each in one section. -/
def RowsAt (l : List Sec) (w : Nat) : Int → List (List Int) → Prop
  | _, [] => True
  | F, r :: rs => (∃ (n : Nat) (k : Int), r = fromN F n ∧ 1 ≤ n ∧ n ≤ w ∧ ∀ j : Nat, j < n → sectF l (F + (j : Int)) = (k, true)) ∧ RowsAt l w (F + (r.length : Int)) rs
def total (rs : List (List Int)) : Int := ((rs.map List.length).sum : Nat)
theorem total_cons (r : List Int) (rs : List (List Int)) : total (r :: rs) = (r.length : Int) + total rs := by simp [total]
theorem total_append (a b : List (List Int)) : total (a ++ b) = total a + total b := by simp [total]
theorem RowsAt.append {l : List Sec} {w : Nat} : ∀ {F : Int} {a b : List (List Int)}, RowsAt l w F a → RowsAt l w (F + total a) b → RowsAt l w F (a ++ b)
  | F, [], b, _, hb => by simpa [total] using hb
  | F, r :: a, b, ha, hb => ⟨ha.1, RowsAt.append ha.2 (by rw [total_cons] at hb; rwa [Int.add_assoc])⟩
theorem rowsS_zero (F : Int) {w : Nat} (hw : 1 ≤ w) : rowsS F w 0 = [] := by simp [rowsS, nch_zero w hw]
theorem rowsS_cons (F : Int) {w n : Nat} (hw : 1 ≤ w) (hn : 1 ≤ n) : rowsS F w n = fromN F (min w n) :: rowsS (F + (w : Int)) w (n - w) := by
  have hc : nch w n = nch w (n - w) + 1 := by
    refine nch_eq hw ?_ (.inr ?_)
    · by_cases h : n ≤ w
      · rw [show n - w = 0 by omega, nch_zero w hw]; omega
      · have : ¬nch w (n - w) * w < n - w := fun h => Nat.lt_irrefl _ ((nch_iff hw).2 h)
        rw [Nat.add_mul]
        omega
    · by_cases h : nch w (n - w) = 0
      · rw [h]; simp; omega
      · have := (nch_iff (w := w) (n := n - w) (j := nch w (n - w) - 1) hw).1 (by omega)
        obtain ⟨q, hq⟩ : ∃ q, nch w (n - w) = q + 1 := ⟨nch w (n - w) - 1, by omega⟩
        rw [hq] at this ⊢
        simp only [Nat.add_sub_cancel] at this ⊢
        rw [Nat.add_mul]
        omega
  unfold rowsS
  rw [hc, List.range_succ_eq_map, List.map_cons, List.map_map]
  congr 1
  · simp [rowAt]
  · refine List.map_congr_left fun j _ => ?_
    show rowAt F w n (j + 1) = rowAt (F + (w : Int)) w (n - w) j
    unfold rowAt
    have e1 : ((j + 1) * w) = w + j * w := by rw [Nat.add_mul]; omega
    rw [e1, show F + ((w + j * w : Nat) : Int) = F + (w : Int) + ((j * w : Nat) : Int) by omega, show n - (w + j * w) = n - w - j * w by omega]
theorem rowsS_at {l : List Sec} {w : Nat} (hw : 1 ≤ w) {k : Int} : ∀ (n : Nat) (F : Int), (∀ j : Nat, j < n → sectF l (F + (j : Int)) = (k, true)) → RowsAt l w F (rowsS F w n) ∧ total (rowsS F w n) = n := by
  intro n
  induction n using Nat.strongRecOn with
  | _ n ih =>
    intro F h
    by_cases hn : n = 0
    · subst hn
      rw [rowsS_zero F hw]
      exact ⟨trivial, rfl⟩
    · rw [rowsS_cons F hw (by omega)]
      obtain ⟨h1, h2⟩ := ih (n - w) (by omega) (F + (w : Int)) (fun j hj => by
        have := h (w + j) (by omega)
        rwa [show F + (w : Int) + (j : Int) = F + ((w + j : Nat) : Int) by omega])
      refine ⟨⟨⟨min w n, k, rfl, by omega, by omega, fun j hj => h j (by omega)⟩, ?_⟩, ?_⟩
      · rw [fromN_len]
        by_cases hwn : w ≤ n
        · rw [Nat.min_eq_left hwn]; exact h1
        · rw [show n - w = 0 by omega, rowsS_zero _ hw]; trivial
      · rw [total_cons, fromN_len, h2]
        omega
theorem rowsTo_at {l : List Sec} (hS : SecsP l) {w : Nat} (hw : 1 ≤ w) : ∀ k, k ≤ l.length → RowsAt l w 0 (rowsTo l w k) ∧ total (rowsTo l w k) = ssum (l.take k)
  | 0, _ => ⟨trivial, rfl⟩
  | k + 1, hk => by
    obtain ⟨x, hx⟩ := get_of_lt (show k < l.length by omega)
    obtain ⟨h1, h2⟩ := rowsTo_at hS hw k (by omega)
    have hz := hS.size x (mem_of_get hx)
    obtain ⟨h3, h4⟩ := rowsS_at (l := l) hw (k := (k : Int)) x.2.1.toNat (ssum (l.take k)) (fun j hj => sect_at hS hx (by omega) (by omega))
    rw [rowsTo_succ hx]
    refine ⟨h1.append ?_, ?_⟩
    · rw [h2, Int.zero_add]; exact h3
    · rw [total_append, h2, h4, ssum_take_succ hx]
      omega
/-- What rows have. -/
theorem rows_facts {l : List Sec} {wd : Int} {rs : List (List Int)} (h : rowsF l wd = (rs, true)) : SecsP l ∧ (1 ≤ wd ∧ wd ≤ 12) ∧ RowsAt l wd.toNat 0 rs ∧ total rs = ssum l ∧ sectF l (total rs) = (0, false) := by
  unfold rowsF at h
  split at h
  · rename_i hp
    obtain ⟨hS, h1, h2⟩ := hp
    obtain ⟨a, b⟩ := rowsTo_at hS (w := wd.toNat) (by omega) l.length (Nat.le_refl _)
    obtain rfl : rowsTo l wd.toNat l.length = rs := (Prod.mk.inj h).1
    rw [List.take_length] at b
    exact ⟨hS, ⟨h1, h2⟩, a, b, by rw [b]; exact sectF_out hS (Int.le_refl _)⟩
  · cases h
theorem RowsAt.drop {l : List Sec} {w : Nat} : ∀ {F : Int} {rs : List (List Int)} {k : Nat} {r : List Int}, RowsAt l w (F + total (rs.take k)) (rs.drop k) → rs[k]? = some r →
    (∃ (n : Nat) (c : Int), r = fromN (F + total (rs.take k)) n ∧ 1 ≤ n ∧ n ≤ w ∧ ∀ j : Nat, j < n → sectF l (F + total (rs.take k) + (j : Int)) = (c, true)) ∧ RowsAt l w (F + total (rs.take (k + 1))) (rs.drop (k + 1)) ∧ total (rs.take (k + 1)) = total (rs.take k) + (r.length : Int) := by
  intro F rs k r h hr
  have hd : rs.drop k = r :: rs.drop (k + 1) := by
    obtain ⟨hk, rfl⟩ := List.getElem?_eq_some_iff.1 hr
    exact List.drop_eq_getElem_cons hk
  have ht : total (rs.take (k + 1)) = total (rs.take k) + (r.length : Int) := by
    rw [take_succ_of hr, total_append]
    simp [total]
  rw [hd] at h
  exact ⟨h.1, by rw [ht, ← Int.add_assoc]; exact h.2, ht⟩
/-- What a text of sections is. -/
theorem stx_same (v : List Sec) : ∃ (t : ByteArray) (o : Bool), stxF v = (t, o) ∧ (o = true ↔ SecsP v) ∧ t.size ≤ 1048576 ∧ (o = true → psecF t = (v, true)) := by
  by_cases h : SecsP v
  · refine ⟨_, true, stxF_ok h, by simp [h], ?_, fun _ => sec_back h⟩
    have := cat_size (f := lineC) (m := 28) (l := v) (fun x hx => lineC_size (stxF_line h x hx)) v.length
    rw [List.take_length] at this
    have := h.2.2.1.2
    omega
  · exact ⟨_, false, stxF_bad h, by simp [h], Nat.zero_le _, fun h => by cases h⟩
end Go.Proofs.YtbhkcbfmlniamaaDoor
