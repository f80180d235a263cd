/-
  A text that was written is read back: plain.
-/
import Derived.Test.YtbhkcbfmlniamaaDoorPieces
namespace Go.Proofs.YtbhkcbfmlniamaaDoor

theorem canon_of : ∀ (n : Nat), ∃ l, Canon l ∧ valF l = n ∧ (1 < l.length → 10 ≤ n)
  | n => by
    by_cases h : n < 10
    · refine ⟨[UInt8.ofNat (48 + n)], ⟨by simp, by simp, fun b hb => ?_⟩, ?_, by simp⟩
      · simp only [List.mem_singleton] at hb
        subst hb
        rw [UInt8.toNat_ofNat']
        omega
      · unfold valF
        simp only [List.foldl_cons, List.foldl_nil]
        rw [UInt8.toNat_ofNat']
        omega
    · obtain ⟨l, hc, hv, hl⟩ := canon_of (n / 10)
      have hne := hc.1
      refine ⟨l ++ [UInt8.ofNat (48 + n % 10)], ⟨by simp, fun _ h0 => ?_, fun b hb => ?_⟩, ?_, fun _ => by omega⟩
      · have hlp : 0 < l.length := List.length_pos_iff.2 hne
        rw [List.getElem?_append_left hlp] at h0
        by_cases h1 : 1 < l.length
        · exact hc.2.1 h1 h0
        · obtain ⟨b, rfl⟩ : ∃ b, l = [b] := by
            match l, h1, hne with
            | [b], _, _ => exact ⟨b, rfl⟩
            | _ :: _ :: _, h1, _ => simp at h1
          simp at h0
          subst h0
          simp [valF] at hv
          omega
      · rcases List.mem_append.1 hb with hb | hb
        · exact hc.2.2 b hb
        · simp only [List.mem_singleton] at hb
          subst hb
          rw [UInt8.toNat_ofNat']
          omega
      · rw [valF_snoc, hv, UInt8.toNat_ofNat']
        omega
  termination_by n => n
  decreasing_by omega
/-- A number's text is canonical, and is read as that number. -/
theorem num_canon {n : Int} (h0 : 0 ≤ n) (h1 : n ≤ 999999) : Canon (numS n).data.toList ∧ rdF (numS n).data.toList = n ∧ (natF (numS n).data.toList) = (n, true) := by
  obtain ⟨l, hc, hv, _⟩ := canon_of n.toNat
  have hn : (valF l : Int) = n := by omega
  have he : (numS n).data.toList = l := by
    rw [← hn, numS_valF hc]
    rfl
  have hl : l.length ≤ 6 := by
    have h2 := numS_size h0 h1
    have h3 : (numS n).data.toList.length = (numS n).size := by simp
    rw [he] at h3
    omega
  rw [he]
  exact ⟨hc, by rw [rdF_yes ⟨hc, hl⟩, hn], by rw [natF_yes ⟨hc, by omega⟩, hn]⟩
theorem num_no {n : Int} (h0 : 0 ≤ n) (h1 : n ≤ 999999) {c : UInt8} (hc : c.toNat < 48) : c ∉ (numS n).data.toList := fun h => by
  have := (num_canon h0 h1).1.2.2 c h
  omega
theorem pieces_clean {c : UInt8} : ∀ {p : List UInt8}, c ∉ p → pieces c p = [p]
  | [], _ => rfl
  | b :: p, h => by
    rw [pieces_other (fun e => h (by simp [e])), pieces_clean (fun hm => h (by simp [hm]))]
    rfl
theorem pieces_app {c : UInt8} (r : List UInt8) : ∀ {p : List UInt8}, c ∉ p → pieces c (p ++ c :: r) = p :: pieces c r
  | [], _ => pieces_sep c r
  | b :: p, h => by
    rw [List.cons_append, pieces_other (fun e => h (by simp [e])), pieces_app r (fun hm => h (by simp [hm]))]
    rfl
theorem pieces_lines {c : UInt8} : ∀ {ls : List (List UInt8)}, (∀ p ∈ ls, c ∉ p) → pieces c (ls.map (· ++ [c])).flatten = ls ++ [[]]
  | [], _ => rfl
  | p :: ls, h => by
    rw [List.map_cons, List.flatten_cons, List.append_assoc]
    show pieces c (p ++ c :: (ls.map (· ++ [c])).flatten) = _
    rw [pieces_app _ (h p (by simp)), pieces_lines (fun q hq => h q (by simp [hq]))]
    rfl
/-- The lines of a text of lines. -/
theorem pcs_lines {ls : List ByteArray} (h : ∀ x ∈ ls, (10 : UInt8) ∉ x.data.toList) : pcs 10 (toB (ls.map (·.data.toList ++ [10])).flatten) = ls ++ [toB []] := by
  unfold pcs
  have hp := pieces_lines (c := 10) (ls := ls.map (·.data.toList)) (by
    intro p hp
    obtain ⟨x, hx, rfl⟩ := List.mem_map.1 hp
    exact h x hx)
  rw [List.map_map] at hp
  show (pieces 10 (ls.map (·.data.toList ++ [10])).flatten).map toB = _
  rw [show (ls.map (·.data.toList ++ [10])) = ls.map ((fun x => x ++ [10]) ∘ (·.data.toList)) from rfl, hp]
  simp only [List.map_append, List.map_map, List.map_cons, List.map_nil]
  congr 1
  conv => rhs; rw [← List.map_id ls]
  exact List.map_congr_left fun x _ => toB_self x
/-- Three words apart. -/
theorem words3 {a b c : List UInt8} (ha : (32 : UInt8) ∉ a) (hb : (32 : UInt8) ∉ b) (hc : (32 : UInt8) ∉ c) {x : ByteArray} (hx : x.data.toList = a ++ 32 :: (b ++ 32 :: c)) : L3 x ∧ word x 0 = a ∧ word x 1 = b ∧ word x 2 = c := by
  have hp : pieces 32 x.data.toList = [a, b, c] := by rw [hx, pieces_app _ ha, pieces_app _ hb, pieces_clean hc]
  refine ⟨?_, ?_, ?_, ?_⟩
  · unfold L3 pcs
    rw [hp]
    rfl
  all_goals
    unfold word
    rw [hp]
    rfl
end Go.Proofs.YtbhkcbfmlniamaaDoor
