/-
  The text of sections is read back: plain.
-/
import Derived.Test.YtbhkcbfmlniamaaDoorRoundP
import Derived.Test.YtbhkcbfmlniamaaDoorParseT
namespace Go.Proofs.YtbhkcbfmlniamaaDoor
open Go.RowKit

theorem name_no {s : ByteArray} (h : NameP s) {c : UInt8} (hc : c.toNat < 97) : c ∉ s.data.toList := fun hm => by
  have := h.1 c hm
  omega
/-- The line of a section, without its end. -/
def lnS (x : Sec) : ByteArray := toB (x.1.data.toList ++ 32 :: ((numS x.2.1).data.toList ++ 32 :: (numS x.2.2).data.toList))
theorem lnS_line (x : Sec) : lineC x = toB ((lnS x).data.toList ++ [10]) := by
  unfold lineC lnS
  apply ByteArray.ext
  simp [toB, ByteArray.data_append]
theorem lnS_facts {x : Sec} (h : SecP x) : L3 (lnS x) ∧ secR (lnS x) = x ∧ (10 : UInt8) ∉ (lnS x).data.toList := by
  have hr : (0 ≤ x.2.1 ∧ x.2.1 ≤ 999999) ∧ 0 ≤ x.2.2 ∧ x.2.2 ≤ 999999 := by have := h.2; omega
  obtain ⟨w1, w2, w3, w4⟩ := words3 (x := lnS x) (name_no h.1 (c := 32) (by decide)) (num_no hr.1.1 hr.1.2 (c := 32) (by decide)) (num_no hr.2.1 hr.2.2 (c := 32) (by decide)) rfl
  refine ⟨w1, ?_, ?_⟩
  · unfold secR
    rw [w2, w3, w4, (num_canon hr.1.1 hr.1.2).2.1, (num_canon hr.2.1 hr.2.2).2.1, toB_self]
  · show (10 : UInt8) ∉ x.1.data.toList ++ 32 :: ((numS x.2.1).data.toList ++ 32 :: (numS x.2.2).data.toList)
    have n1 := name_no h.1 (c := 10) (by decide)
    have n2 := num_no hr.1.1 hr.1.2 (c := 10) (by decide)
    have n3 := num_no hr.2.1 hr.2.2 (c := 10) (by decide)
    simp only [List.mem_append, List.mem_cons, not_or]
    exact ⟨n1, by decide, n2, by decide, n3⟩
theorem cat_lnS (v : List Sec) : cat lineC v = toB ((v.map lnS).map (·.data.toList ++ [10])).flatten := by
  have key : ∀ (ls : List Sec) (a : List UInt8), ls.foldl (fun a x => a ++ lineC x) (toB a) = toB (a ++ ((ls.map lnS).map (·.data.toList ++ [10])).flatten) := by
    intro ls
    induction ls with
    | nil => intro a; simp
    | cons x ls ih =>
      intro a
      rw [List.foldl_cons, lnS_line, show toB a ++ toB ((lnS x).data.toList ++ [10]) = toB (a ++ ((lnS x).data.toList ++ [10])) from ByteArray.mk_append_mk _ _, ih]
      simp
  have := key v []
  rw [List.nil_append] at this
  exact this
/-- What was written is read back. -/
theorem sec_back {v : List Sec} (h : SecsP v) : psecF (cat lineC v) = (v, true) := by
  have hp : pcs 10 (cat lineC v) = v.map lnS ++ [toB []] := by
    rw [cat_lnS]
    exact pcs_lines fun x hx => by
      obtain ⟨y, hy, rfl⟩ := List.mem_map.1 hx
      exact (lnS_facts (h.1 y hy)).2.2
  have hd : (pcs 10 (cat lineC v)).dropLast = v.map lnS := by rw [hp, List.dropLast_concat]
  have hm : (v.map lnS).map secR = v := by
    rw [List.map_map]
    conv => rhs; rw [← List.map_id v]
    exact List.map_congr_left fun x hx => (lnS_facts (h.1 x hx)).2.1
  have hl : (pcs 10 (cat lineC v)).length ≤ 11 := by
    rw [hp]
    have := h.2.2.1.2
    simp
    omega
  rw [psecF_yes (s := cat lineC v) ⟨hl, by
    rw [hd]
    intro x hx
    obtain ⟨y, hy, rfl⟩ := List.mem_map.1 hx
    exact (lnS_facts (h.1 y hy)).1, by rw [hd, hm]; exact h, by rw [hd, hm]⟩, hd, hm]
end Go.Proofs.YtbhkcbfmlniamaaDoor
