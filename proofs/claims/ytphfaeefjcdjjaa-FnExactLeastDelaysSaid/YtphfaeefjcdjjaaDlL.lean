/-
  The program's least delays.
-/
import Derived.Test.YtphfaeefjcdjjaaDlK
import Derived.Test.YtphfaeefjcdjjaaDlE
import Derived.Deep.RegionLaw
namespace Go.Proofs.Ytphfaeefjcdjjaa
open Go.RowKit Go.ChangeShapes Go.WideShapes
set_option linter.unusedVariables false

/-! ### The moves -/
theorem movesL_len (F G : List (Int × Int)) (C : Int) (P : List Int) : (movesL F G C P).length = P.length := movesTo_len _ _ _ _ _
theorem movesL_at {F G : List (Int × Int)} {C : Int} {P : List Int} (hT : RepT F G C P) {i : Nat} (hi : i < P.length) :
    ∃ a b c d, (movesL F G C P)[i]? = some (a, b, c, d, C) ∧ MvS a b c d C := by
  obtain ⟨⟨hF, hG, hFG, hC, hM, hPF⟩, hC16, h6⟩ := hT
  obtain ⟨x, hx⟩ := get_of_lt hi
  obtain ⟨y, hy⟩ := get_of_lt (l := F) (k := i) (by omega)
  have hxb := (hM i x hx).1
  obtain ⟨v, hv⟩ := get_of_lt (l := G) (k := x.toNat) (by omega)
  refine ⟨y.1, y.2, v.1, v.2, ?_, (hF.1 i y hy).1, (hG.1 _ v hv).1, hC.1, hC16⟩
  unfold movesL movesTo
  rw [List.getElem?_map, List.getElem?_range hi]
  simp only [Option.map_some, moveN]
  rw [getD_of hx, getD_of hy, getD_of hv]
/-- Two of the moves come too close with delays. -/
def closeM (L : List MvT) (least : Int) (i k p q : Nat) : Prop :=
  CloseP (L.getD i (0, 0, 0, 0, 0)).1 (L.getD i (0, 0, 0, 0, 0)).2.1 (L.getD i (0, 0, 0, 0, 0)).2.2.1 (L.getD i (0, 0, 0, 0, 0)).2.2.2.1 (L.getD k (0, 0, 0, 0, 0)).1 (L.getD k (0, 0, 0, 0, 0)).2.1 (L.getD k (0, 0, 0, 0, 0)).2.2.1 (L.getD k (0, 0, 0, 0, 0)).2.2.2.1 (L.getD i (0, 0, 0, 0, 0)).2.2.2.2 p q least
theorem closeM_of {L : List MvT} {least : Int} {i k p q : Nat} {a b c d n a' b' c' d' n' : Int} (hi : L[i]? = some (a, b, c, d, n)) (hk : L[k]? = some (a', b', c', d', n')) :
    closeM L least i k p q ↔ CloseP a b c d a' b' c' d' n p q least := by
  unfold closeM
  rw [getD_of hi, getD_of hk]
open Classical in
noncomputable def clF (L : List MvT) (least : Int) (n : Nat) : Nat → Nat → Nat → Nat → Bool := fun i k p q => decide (i < k ∧ k < n ∧ closeM L least i k p q)
open Classical in
/-- The table with its first c entries. -/
noncomputable def partD (L : List MvT) (least : Int) (n c : Nat) : Nat → Nat → Nat → Nat → Bool := fun i k p q => decide (i * 150 + k * 25 + p * 5 + q < c ∧ i < k ∧ k < n ∧ closeM L least i k p q)
theorem part_same {L : List MvT} {least : Int} {n c c' i k p q : Nat} (h : i < k → k < n → (i * 150 + k * 25 + p * 5 + q < c ↔ i * 150 + k * 25 + p * 5 + q < c')) : partD L least n c i k p q = partD L least n c' i k p q := by
  unfold partD
  congr 1
  refine propext ⟨fun ⟨h1, h2, h3, h4⟩ => ⟨(h h2 h3).1 h1, h2, h3, h4⟩, fun ⟨h1, h2, h3, h4⟩ => ⟨(h h2 h3).2 h1, h2, h3, h4⟩⟩
theorem part_full {L : List MvT} {least : Int} {n c i k p q : Nat} (h : i < k → k < n → i * 150 + k * 25 + p * 5 + q < c) : partD L least n c i k p q = clF L least n i k p q := by
  unfold partD clF
  congr 1
  refine propext ⟨fun ⟨_, h2, h3, h4⟩ => ⟨h2, h3, h4⟩, fun ⟨h2, h3, h4⟩ => ⟨h h2 h3, h2, h3, h4⟩⟩
theorem part_new {L : List MvT} {least : Int} {n c i k p q : Nat} {b : Bool} (hc : i * 150 + k * 25 + p * 5 + q = c) (h1 : i < k) (h2 : k < n) (hb : b = true ↔ closeM L least i k p q) : partD L least n (c + 1) i k p q = b := by
  unfold partD
  cases b with
  | true => simp only [decide_eq_true_eq]; exact ⟨by omega, h1, h2, hb.1 rfl⟩
  | false =>
    simp only [decide_eq_false_iff_not]
    rintro ⟨_, _, _, h⟩
    exact absurd (hb.2 h) (by decide)
theorem part_zero {L : List MvT} {least : Int} {n i k p q : Nat} : partD L least n 0 i k p q = false := by
  unfold partD
  simp only [decide_eq_false_iff_not]
  rintro ⟨h, _⟩
  omega

theorem TabD.congr {w : World} {g : Nat} {cl cl' : Nat → Nat → Nat → Nat → Bool} {n : Nat} {v : Value} {e : Int} {cs : Array Value} (h : TabD w g cl n v e cs) (hc : ∀ i k p q, i < 6 → k < 6 → p < 5 → q < 5 → cl i k p q = cl' i k p q) : TabD w g cl' n v e cs :=
  { h with tab := fun i k p q h1 h2 h3 h4 => by rw [← hc i k p q h1 h2 h3 h4]; exact h.tab i k p q h1 h2 h3 h4 }
theorem TabD.put {w : World} {g : Nat} {L : List MvT} {least : Int} {n c : Nat} {v : Value} {e : Int} {cs : Array Value} (h : TabD w g (partD L least n c) n v e cs) {i k p q : Nat} {b : Bool} (hc : i * 150 + k * 25 + p * 5 + q = c) (h1 : i < k) (h2 : k < n) (hn : n ≤ 6) (hp : p < 5) (hq : q < 5) (hb : b = true ↔ closeM L least i k p q) :
    TabD (w.setCell ⟨g, i * 150 + k * 25 + p * 5 + q, none⟩ (.bool b)) g (partD L least n (c + 1)) n v e (cs.setIfInBounds (i * 150 + k * 25 + p * 5 + q) (.bool b)) where
  box := h.box.set _ _
  size := by simp [h.size]
  tab i' k' p' q' hi' hk' hp' hq' := by
    rw [Array.getElem?_setIfInBounds]
    by_cases e : i * 150 + k * 25 + p * 5 + q = i' * 150 + k' * 25 + p' * 5 + q'
    · obtain rfl : i = i' := by omega
      obtain rfl : k = k' := by omega
      obtain rfl : p = p' := by omega
      obtain rfl : q = q' := by omega
      rw [if_pos rfl, if_pos (by rw [h.size]; omega), part_new hc h1 h2 hb]
    · rw [if_neg e, h.tab i' k' p' q' hi' hk' hp' hq', part_same (c' := c + 1) (fun _ _ => by omega)]
  num := by rw [Array.getElem?_setIfInBounds, if_neg (by omega)]; exact h.num
  best := by rw [Array.getElem?_setIfInBounds, if_neg (by omega)]; exact h.best
  sum := by rw [Array.getElem?_setIfInBounds, if_neg (by omega)]; exact h.sum

def Z903 : Array Value := (Array.replicate 900 (.bool false)) ++ #[.int .i64 0, .slice none 0 0, .int .i64 0]
theorem zeroD : Try.zeroCells69 = Z903 := by kernel_rfl
theorem TabD.new (w : World) (L : List MvT) (least : Int) (n : Nat) :
    ∃ cs, TabD (w.alloc (.cells (Try.zeroCells69.setIfInBounds 900 (.int .i64 n)) 69)) w.heap.size (partD L least n 0) n (.slice none 0 0) 0 cs := by
  rw [zeroD]
  refine ⟨_, BoxR.new _ _ _, by simp [Z903], fun i k p q hi hk hp hq => ?_, ?_, ?_, ?_⟩
  · rw [Array.getElem?_setIfInBounds, if_neg (by omega), part_zero]
    unfold Z903
    rw [Array.getElem?_append_left (by simp; omega)]
    rw [Array.getElem?_replicate, if_pos (by omega)]
  · rw [Array.getElem?_setIfInBounds, if_pos rfl, if_pos (by simp [Z903])]
  · rw [Array.getElem?_setIfInBounds, if_neg (by omega)]
    unfold Z903
    rw [Array.getElem?_append_right (by simp)]
    simp
  · rw [Array.getElem?_setIfInBounds, if_neg (by omega)]
    unfold Z903
    rw [Array.getElem?_append_right (by simp)]
    simp
/-- The table as far as it is filled. -/
def DsS (w1 wr : World) (g : Nat) (L : List MvT) (least : Int) (n c : Nat) : Prop := (∃ cs, TabD wr g (partD L least n c) n (.slice none 0 0) 0 cs) ∧ Gw w1 wr
theorem DsS.skip {w1 wr : World} {g : Nat} {L : List MvT} {least : Int} {n c c' : Nat} (h : DsS w1 wr g L least n c) (hc : ∀ i k p q, i < k → k < n → i < 6 → k < 6 → p < 5 → q < 5 → (i * 150 + k * 25 + p * 5 + q < c ↔ i * 150 + k * 25 + p * 5 + q < c')) : DsS w1 wr g L least n c' := by
  obtain ⟨⟨cs, h1⟩, h2⟩ := h
  exact ⟨⟨cs, h1.congr fun i k p q hi hk hp hq => part_same fun a b => hc i k p q a b hi hk hp hq⟩, h2⟩
theorem BestD.lower {w : World} {base base' n : Nat} {st : Option (List Int × Int)} {v : Value} {e : Int} (h : BestD w base n st v e) (hb : base' ≤ base) : BestD w base' n st v e := by
  rcases h with h | ⟨o, g, c, h1, h2, h3, h4, h5, h6⟩
  · exact .inl h
  · exact .inr ⟨o, g, c, h1, h2, h3, h4, h5, own_lower h6 hb⟩
end Go.Proofs.Ytphfaeefjcdjjaa
