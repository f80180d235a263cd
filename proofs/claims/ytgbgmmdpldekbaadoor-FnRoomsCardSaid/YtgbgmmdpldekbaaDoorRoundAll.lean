/-
  A text that was written is read back: plain.
  The text of windows is read back: plain.
-/
import Derived.Test.YtgbgmmdpldekbaaDoorPieces
import Derived.Test.YtgbgmmdpldekbaaDoorParseQ
namespace Go.Proofs.YtgbgmmdpldekbaaDoor

theorem canon_of : ∀ (n : Nat), ∃ l, Canon l ∧ valF l = n ∧ (1 < l.length → 10 ≤ n)
  | n => by
    by_cases h : n < 10
    · refine ⟨[UInt8.ofNat (48 + n)], ⟨by simp, by simp, fun b hb => ?_⟩, ?_, by simp⟩
      · simp only [List.mem_singleton] at hb
        subst hb
        rw [UInt8.toNat_ofNat']
        omega
      · unfold valF
        simp only [List.foldl_cons, List.foldl_nil]
        rw [UInt8.toNat_ofNat']
        omega
    · obtain ⟨l, hc, hv, hl⟩ := canon_of (n / 10)
      have hne := hc.1
      refine ⟨l ++ [UInt8.ofNat (48 + n % 10)], ⟨by simp, fun _ h0 => ?_, fun b hb => ?_⟩, ?_, fun _ => by omega⟩
      · have hlp : 0 < l.length := List.length_pos_iff.2 hne
        rw [List.getElem?_append_left hlp] at h0
        by_cases h1 : 1 < l.length
        · exact hc.2.1 h1 h0
        · obtain ⟨b, rfl⟩ : ∃ b, l = [b] := by
            match l, h1, hne with
            | [b], _, _ => exact ⟨b, rfl⟩
            | _ :: _ :: _, h1, _ => simp at h1
          simp at h0
          subst h0
          simp [valF] at hv
          omega
      · rcases List.mem_append.1 hb with hb | hb
        · exact hc.2.2 b hb
        · simp only [List.mem_singleton] at hb
          subst hb
          rw [UInt8.toNat_ofNat']
          omega
      · rw [valF_snoc, hv, UInt8.toNat_ofNat']
        omega
  termination_by n => n
  decreasing_by omega
/-- A number's text is canonical, and is read as that number. -/
theorem num_canon {n : Int} (h0 : 0 ≤ n) (h1 : n ≤ 999999) : Canon (numS n).data.toList ∧ rdF (numS n).data.toList = n ∧ (natF (numS n).data.toList) = (n, true) := by
  obtain ⟨l, hc, hv, _⟩ := canon_of n.toNat
  have hn : (valF l : Int) = n := by omega
  have he : (numS n).data.toList = l := by
    rw [← hn, numS_valF hc]
    rfl
  have hl : l.length ≤ 6 := by
    have h2 := numS_size h0 h1
    have h3 : (numS n).data.toList.length = (numS n).size := by simp
    rw [he] at h3
    omega
  rw [he]
  exact ⟨hc, by rw [rdF_yes ⟨hc, hl⟩, hn], by rw [natF_yes ⟨hc, by omega⟩, hn]⟩
theorem num_no {n : Int} (h0 : 0 ≤ n) (h1 : n ≤ 999999) {c : UInt8} (hc : c.toNat < 48) : c ∉ (numS n).data.toList := fun h => by
  have := (num_canon h0 h1).1.2.2 c h
  omega
theorem pieces_clean {c : UInt8} : ∀ {p : List UInt8}, c ∉ p → pieces c p = [p]
  | [], _ => rfl
  | b :: p, h => by
    rw [pieces_other (fun e => h (by simp [e])), pieces_clean (fun hm => h (by simp [hm]))]
    rfl
theorem pieces_app {c : UInt8} (r : List UInt8) : ∀ {p : List UInt8}, c ∉ p → pieces c (p ++ c :: r) = p :: pieces c r
  | [], _ => pieces_sep c r
  | b :: p, h => by
    rw [List.cons_append, pieces_other (fun e => h (by simp [e])), pieces_app r (fun hm => h (by simp [hm]))]
    rfl
theorem pieces_lines {c : UInt8} : ∀ {ls : List (List UInt8)}, (∀ p ∈ ls, c ∉ p) → pieces c (ls.map (· ++ [c])).flatten = ls ++ [[]]
  | [], _ => rfl
  | p :: ls, h => by
    rw [List.map_cons, List.flatten_cons, List.append_assoc]
    show pieces c (p ++ c :: (ls.map (· ++ [c])).flatten) = _
    rw [pieces_app _ (h p (by simp)), pieces_lines (fun q hq => h q (by simp [hq]))]
    rfl
/-- The lines of a text of lines. -/
theorem pcs_lines {ls : List ByteArray} (h : ∀ x ∈ ls, (10 : UInt8) ∉ x.data.toList) : pcs 10 (toB (ls.map (·.data.toList ++ [10])).flatten) = ls ++ [toB []] := by
  unfold pcs
  have hp := pieces_lines (c := 10) (ls := ls.map (·.data.toList)) (by
    intro p hp
    obtain ⟨x, hx, rfl⟩ := List.mem_map.1 hp
    exact h x hx)
  rw [List.map_map] at hp
  show (pieces 10 (ls.map (·.data.toList ++ [10])).flatten).map toB = _
  rw [show (ls.map (·.data.toList ++ [10])) = ls.map ((fun x => x ++ [10]) ∘ (·.data.toList)) from rfl, hp]
  simp only [List.map_append, List.map_map, List.map_cons, List.map_nil]
  congr 1
  conv => rhs; rw [← List.map_id ls]
  exact List.map_congr_left fun x _ => toB_self x
/-- Three words apart. -/
theorem words3 {a b c : List UInt8} (ha : (32 : UInt8) ∉ a) (hb : (32 : UInt8) ∉ b) (hc : (32 : UInt8) ∉ c) {x : ByteArray} (hx : x.data.toList = a ++ 32 :: (b ++ 32 :: c)) : L3 x ∧ word x 0 = a ∧ word x 1 = b ∧ word x 2 = c := by
  have hp : pieces 32 x.data.toList = [a, b, c] := by rw [hx, pieces_app _ ha, pieces_app _ hb, pieces_clean hc]
  refine ⟨?_, ?_, ?_, ?_⟩
  · unfold L3 pcs
    rw [hp]
    rfl
  all_goals
    unfold word
    rw [hp]
    rfl
end Go.Proofs.YtgbgmmdpldekbaaDoor
namespace Go.Proofs.YtgbgmmdpldekbaaDoor
open Go.RowKit

/-- The line of a window, without its end. -/
def lnW (x : W3p) : ByteArray := toB ((numS x.1).data.toList ++ 32 :: ((numS x.2.1).data.toList ++ 32 :: (numS x.2.2).data.toList))
theorem lnW_line (x : W3p) : lineW x = toB ((lnW x).data.toList ++ [10]) := by
  unfold lineW lnW
  apply ByteArray.ext
  simp [toB, ByteArray.data_append]
theorem lnW_facts {x : W3p} (h : (0 ≤ x.1 ∧ x.1 ≤ 999) ∧ (0 ≤ x.2.1 ∧ x.2.1 ≤ 999) ∧ (0 ≤ x.2.2 ∧ x.2.2 ≤ 999)) : L3 (lnW x) ∧ winR (lnW x) = x ∧ (10 : UInt8) ∉ (lnW x).data.toList := by
  obtain ⟨⟨a0, a1⟩, ⟨b0, b1⟩, c0, c1⟩ := h
  have a2 : x.1 ≤ 999999 := by omega
  have b2 : x.2.1 ≤ 999999 := by omega
  have c2 : x.2.2 ≤ 999999 := by omega
  obtain ⟨w1, w2, w3, w4⟩ := words3 (x := lnW x) (num_no a0 a2 (c := 32) (by decide)) (num_no b0 b2 (c := 32) (by decide)) (num_no c0 c2 (c := 32) (by decide)) rfl
  refine ⟨w1, ?_, ?_⟩
  · unfold winR
    rw [w2, w3, w4, (num_canon a0 a2).2.1, (num_canon b0 b2).2.1, (num_canon c0 c2).2.1]
  · show (10 : UInt8) ∉ (numS x.1).data.toList ++ 32 :: ((numS x.2.1).data.toList ++ 32 :: (numS x.2.2).data.toList)
    have n1 := num_no a0 a2 (c := 10) (by decide)
    have n2 := num_no b0 b2 (c := 10) (by decide)
    have n3 := num_no c0 c2 (c := 10) (by decide)
    simp only [List.mem_append, List.mem_cons, not_or]
    exact ⟨n1, by decide, n2, by decide, n3⟩
theorem cat_lnW (v : List W3p) : cat lineW v = toB ((v.map lnW).map (·.data.toList ++ [10])).flatten := by
  have key : ∀ (ls : List W3p) (a : List UInt8), ls.foldl (fun a x => a ++ lineW x) (toB a) = toB (a ++ ((ls.map lnW).map (·.data.toList ++ [10])).flatten) := by
    intro ls
    induction ls with
    | nil => intro a; simp
    | cons x ls ih =>
      intro a
      rw [List.foldl_cons, lnW_line, show toB a ++ toB ((lnW x).data.toList ++ [10]) = toB (a ++ ((lnW x).data.toList ++ [10])) from ByteArray.mk_append_mk _ _, ih]
      simp
  have := key v []
  rw [List.nil_append] at this
  exact this
/-- What was written is read back. -/
theorem win_back {v : List W3p} (h : WinsP v) : prsF (cat lineW v) = (v, true) := by
  have hl := wtxF_line h
  have hp : pcs 10 (cat lineW v) = v.map lnW ++ [toB []] := by
    rw [cat_lnW]
    exact pcs_lines fun x hx => by
      obtain ⟨y, hy, rfl⟩ := List.mem_map.1 hx
      exact (lnW_facts (hl y hy)).2.2
  have hd : (pcs 10 (cat lineW v)).dropLast = v.map lnW := by rw [hp, List.dropLast_concat]
  have hm : (v.map lnW).map winR = v := by
    rw [List.map_map]
    conv => rhs; rw [← List.map_id v]
    exact List.map_congr_left fun x hx => (lnW_facts (hl x hx)).2.1
  have hlen : (pcs 10 (cat lineW v)).length ≤ 21 := by
    rw [hp]
    have := h.2.2
    simp
    omega
  rw [prsF_yes (s := cat lineW v) ⟨hlen, by
    rw [hd]
    intro x hx
    obtain ⟨y, hy, rfl⟩ := List.mem_map.1 hx
    exact (lnW_facts (hl y hy)).1, by rw [hd, hm]; exact h, by rw [hd, hm]⟩, hd, hm]
/-- What a text of windows is. -/
theorem wtx_same (v : List W3p) : ∃ (t : ByteArray) (o : Bool), wtxF v = (t, o) ∧ (o = true ↔ WinsP v) ∧ t.size ≤ 1048576 ∧ (o = true → prsF t = (v, true)) := by
  by_cases h : WinsP v
  · refine ⟨_, true, wtxF_ok h, by simp [h], ?_, fun _ => win_back h⟩
    have := cat_size (f := lineW) (m := 28) (l := v) (fun x hx => lineW_size (wtxF_line h x hx)) v.length
    rw [List.take_length] at this
    have := h.2.2
    omega
  · exact ⟨_, false, wtxF_bad h, by simp [h], Nat.zero_le _, fun h => by cases h⟩
end Go.Proofs.YtgbgmmdpldekbaaDoor
