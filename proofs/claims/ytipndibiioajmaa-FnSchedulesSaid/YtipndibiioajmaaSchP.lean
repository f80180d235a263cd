/-
  First schedules are schedules, the best order ends earliest, free windows are what booked ones leave; plain.
-/
import Derived.Test.YtipndibiioajmaaBestI
import Derived.Test.YtipndibiioajmaaWinP
import Derived.Test.YtipndibiioajmaaFreeP
namespace Go.Proofs.Ytipndibiioajmaa
open Go.RowKit

theorem schedGo_fit {W : List (Int × Int × Int)} : ∀ (L : List (Int × Int)) (S T : List B4), schedGo W S L = some T → ∃ U, T = S ++ U ∧ SchedP W L U
  | [], S, T, h => by
    obtain rfl : S = T := Option.some.inj h
    exact ⟨[], by simp, rfl, fun i x r hx => by simp at hx⟩
  | r :: rs, S, T, h => by
    cases hf : firstB W S r with
    | none => rw [schedGo_cons_none hf] at h; cases h
    | some x =>
      rw [schedGo_cons_some hf] at h
      obtain ⟨U, rfl, h1, h2⟩ := schedGo_fit rs (S ++ [x]) T h
      refine ⟨x :: U, by simp, by simp [h1], fun i y q hy hq => ?_⟩
      cases i with
      | zero =>
        simp only [List.getElem?_cons_zero, Option.some.injEq] at hy hq
        subst hy
        subst hq
        obtain ⟨f, p, h3, h4, h5, h6, rfl⟩ := firstB_is hf
        exact ⟨rfl, by dsimp only; omega, h5.1⟩
      | succ i => exact h2 i y q (by simpa using hy) (by simpa using hq)
theorem upN_mem {n : Nat} {i : Int} : i ∈ upN n ↔ 0 ≤ i ∧ i < n := by
  unfold upN
  rw [List.mem_map]
  constructor
  · rintro ⟨a, ha, rfl⟩
    have := List.mem_range.1 ha
    show (0 : Int) ≤ (a : Int) ∧ (a : Int) < n
    omega
  · intro h
    exact ⟨i.toNat, List.mem_range.2 (by omega), by show ((i.toNat : Nat) : Int) = i; omega⟩
theorem ordsF_id {n : Nat} : ∀ (k m : Nat), m + k = n → upN n ∈ ordsF n k (upN m)
  | 0, m, h => by
    obtain rfl : m = n := by omega
    simp [ordsF]
  | k + 1, m, h => by
    have h' : m + (k + 1) = n := h
    have ih := ordsF_id k (m + 1) (show m + 1 + k = n by omega)
    show upN n ∈ (upN n).flatMap _
    refine List.mem_flatMap.2 ⟨(m : Int), upN_mem.2 ⟨by omega, by omega⟩, ?_⟩
    rw [if_neg (fun hm => by have := (upN_mem.1 hm).2; omega), ← upN_succ]
    exact ih
theorem pickR_id (L : List (Int × Int)) : pickR L (upN L.length) = L := by
  apply List.ext_getElem?
  intro i
  unfold pickR
  rw [List.getElem?_map]
  by_cases hi : i < L.length
  · rw [upN_get hi]
    show some (L.getD ((i : Int)).toNat (0, 0)) = _
    rw [Int.toNat_natCast, List.getD_eq_getElem?_getD, List.getElem?_eq_getElem hi]
    rfl
  · rw [List.getElem?_eq_none (by rw [upN_len]; omega), List.getElem?_eq_none (by omega)]
    rfl
theorem bestStep_le {W : List (Int × Int × Int)} {L : List (Int × Int)} {o q : List Int} {e : Int} : ∃ o' e', bestStep W L (some (q, e)) o = some (o', e') ∧ e' ≤ e := by
  unfold bestStep
  cases schedGo W [] (pickR L o) with
  | none => exact ⟨q, e, rfl, Int.le_refl _⟩
  | some s =>
    show ∃ o' e', (if endF s < e then some (o, endF s) else some (q, e)) = some (o', e') ∧ e' ≤ e
    by_cases h : endF s < e
    · rw [if_pos h]; exact ⟨o, _, rfl, by omega⟩
    · rw [if_neg h]; exact ⟨q, e, rfl, Int.le_refl _⟩
theorem best_fold {W : List (Int × Int × Int)} {L : List (Int × Int)} : ∀ (os : List (List Int)) (q : List Int) (e : Int), ∃ o' e', os.foldl (bestStep W L) (some (q, e)) = some (o', e') ∧ e' ≤ e
  | [], q, e => ⟨q, e, rfl, Int.le_refl _⟩
  | o :: os, q, e => by
    obtain ⟨o1, e1, h1, h2⟩ := bestStep_le (W := W) (L := L) (o := o) (q := q) (e := e)
    obtain ⟨o2, e2, h3, h4⟩ := best_fold os o1 e1
    exact ⟨o2, e2, by rw [List.foldl_cons, h1, h3], by omega⟩
theorem best_le {W : List (Int × Int × Int)} {L : List (Int × Int)} {o : List Int} {S : List B4} (hs : schedGo W [] (pickR L o) = some S) : ∀ (os : List (List Int)) (st : Option (List Int × Int)), o ∈ os → ∃ o' e', os.foldl (bestStep W L) st = some (o', e') ∧ e' ≤ endF S
  | [], st, h => by simp at h
  | p :: os, st, h => by
    rw [List.foldl_cons]
    rcases List.mem_cons.1 h with rfl | h
    · have : ∃ q e, bestStep W L st o = some (q, e) ∧ e ≤ endF S := by
        unfold bestStep
        rw [hs]
        cases st with
        | none => exact ⟨o, _, rfl, Int.le_refl _⟩
        | some x =>
          obtain ⟨q, e⟩ := x
          show ∃ o' e', (if endF S < e then some (o, endF S) else some (q, e)) = some (o', e') ∧ e' ≤ endF S
          by_cases h : endF S < e
          · rw [if_pos h]; exact ⟨o, _, rfl, Int.le_refl _⟩
          · rw [if_neg h]; exact ⟨q, e, rfl, by omega⟩
      obtain ⟨q, e, h1, h2⟩ := this
      obtain ⟨o2, e2, h3, h4⟩ := best_fold (W := W) (L := L) os q e
      exact ⟨o2, e2, by rw [h1, h3], by omega⟩
    · exact best_le hs os _ h
theorem best_is {W : List (Int × Int × Int)} {L : List (Int × Int)} : ∀ (os : List (List Int)) (st : Option (List Int × Int)) (o : List Int) (e : Int), os.foldl (bestStep W L) st = some (o, e) → st = some (o, e) ∨ (o ∈ os ∧ ∃ S, schedGo W [] (pickR L o) = some S ∧ e = endF S)
  | [], st, o, e, h => .inl h
  | p :: os, st, o, e, h => by
    rw [List.foldl_cons] at h
    rcases best_is os _ o e h with h | ⟨h1, h2⟩
    · unfold bestStep at h
      split at h
      · exact .inl h
      · rename_i s hs
        split at h
        · simp only [Option.some.injEq, Prod.mk.injEq] at h
          obtain ⟨rfl, rfl⟩ := h
          exact .inr ⟨by simp, s, hs, rfl⟩
        · split at h
          · simp only [Option.some.injEq, Prod.mk.injEq] at h
            obtain ⟨rfl, rfl⟩ := h
            exact .inr ⟨by simp, s, hs, rfl⟩
          · exact .inl h
    · exact .inr ⟨by simp [h1], h2⟩
theorem planF_is {W : List (Int × Int × Int)} {L : List (Int × Int)} {F : List B4} (h : planF W L = (F, true)) : (WinsP W ∧ RehP L) ∧ schedGo W [] L = some F := by
  by_cases hp : WinsP W ∧ RehP L
  · cases hs : schedGo W [] L with
    | none => rw [planF_none hs] at h; cases h
    | some S =>
      rw [planF_some hp hs] at h
      obtain rfl : S = F := (Prod.mk.inj h).1
      exact ⟨hp, rfl⟩
  · rw [planF_bad hp] at h; cases h
/-- A first schedule is a schedule, and there is a best order that ends no later. -/
theorem first_facts {W : List (Int × Int × Int)} {L : List (Int × Int)} {F : List B4} (h : planF W L = (F, true)) : (WinsP W ∧ RehP L) ∧ BookP F ∧ schedF W L F = (true, true) ∧ schedEnd F = (endF F, true) ∧ ∃ O E, bestOF W L = (O, E, true) ∧ E ≤ endF F := by
  obtain ⟨hp, hs⟩ := planF_is h
  have hb := (schedGo_book hp.1 L [] F hp.2.1 bookP_nil (by simpa using hp.2.2) hs).1
  obtain ⟨U, hU, hf⟩ := schedGo_fit L [] F hs
  rw [List.nil_append] at hU
  subst hU
  have hid : pickR L (upN L.length) = L := pickR_id L
  obtain ⟨O, E, h1, h2⟩ := best_le (W := W) (L := L) (o := upN L.length) (S := F) (by rw [hid]; exact hs) (ordsF L.length L.length []) none (ordsF_id L.length 0 (by omega))
  exact ⟨hp, hb, schedF_yes ⟨hp.1, hp.2, hb⟩ hf, by unfold schedEnd; rw [if_pos hb], O, E, bestOF_some hp h1, h2⟩
/-- A best order's first schedule ends where it is told. -/
theorem best_facts {W : List (Int × Int × Int)} {L : List (Int × Int)} {O : List Int} {E : Int} (h : bestOF W L = (O, E, true)) : (WinsP W ∧ RehP L) ∧ O.length = L.length ∧ (∀ i ∈ O, 0 ≤ i ∧ i < L.length) ∧ ∃ S, planF W (pickR L O) = (S, true) ∧ S.length ≤ 6 ∧ schedEnd S = (E, true) := by
  by_cases hp : WinsP W ∧ RehP L
  · cases hb : bestF W L with
    | none => rw [bestOF_none hp hb] at h; cases h
    | some x =>
      obtain ⟨o, e⟩ := x
      rw [bestOF_some hp hb] at h
      simp only [Prod.mk.injEq] at h
      obtain ⟨rfl, rfl, -⟩ := h
      rcases best_is _ _ _ _ hb with h | ⟨hm, S, hs, rfl⟩
      · cases h
      · have hl := ordsF_lens hm
        have hin := ordsF_in (by simp) hm
        have hr : ∀ r ∈ pickR L o, ReP r.1 r.2 := by
          intro r hr
          obtain ⟨i, hi, rfl⟩ := List.mem_map.1 hr
          have hib := hin i hi
          obtain ⟨y, hy⟩ := get_of_lt (l := L) (k := i.toNat) (by omega)
          rw [List.getD_eq_getElem?_getD, hy]
          exact hp.2.1 y (mem_of_get hy)
        have hl2 : (pickR L o).length ≤ 6 := by rw [pickR_len, hl]; simpa using hp.2.2
        have hbk := (schedGo_book hp.1 _ [] S hr bookP_nil (by simpa using hl2) hs).1
        exact ⟨hp, by simpa using hl, hin, S, planF_some ⟨hp.1, hr, hl2⟩ hs, hbk.2.2, by unfold schedEnd; rw [if_pos hbk]⟩
  · rw [bestOF_bad hp] at h; cases h
/-- How many hours of a place are open and booked before an hour. -/
def takenN (a : List W3) (s : List B4) (p k : Nat) : Nat := cnt (fun h => tabOf a p h && s.any (atP (p : Int) (h : Int))) k
theorem free_facts {a : List W3} {s : List B4} {P : List W3} (h : freeF a s = (P, true)) : WinsP a ∧ BookP s ∧ WinsP P ∧ ∀ p : Nat, 1 ≤ p → p ≤ 9 → hoursS (p : Int) a = hoursS (p : Int) P + (takenN a s p 168 : Int) := by
  by_cases hp : WinsP a ∧ BookP s
  · rw [freeF_ok hp] at h
    have h0 : ∀ h, freeT (tabOf a) s 0 h = false := fun h => freeT_zero hp.1 h
    unfold winF at h
    split at h
    · rename_i hw
      obtain rfl : wtab (freeT (tabOf a) s) 10 = P := (Prod.mk.inj h).1
      have hW : WinsP (wtab (freeT (tabOf a) s) 10) := by first | exact hw | exact (wtab_good h0).2 hw
      refine ⟨hp.1, hp.2, hW, fun p h1 h9 => ?_⟩
      rw [hours_win hp.1, hours_win hW]
      have e1 : cnt (fun k => tabOf (wtab (freeT (tabOf a) s) 10) p k) 168 = cnt (fun k => freeT (tabOf a) s p k) 168 := cnt_ext fun k hk => tab_tab h0 (by omega) hk
      have e2 : cnt (fun k => tabOf a p k) 168 = cnt (fun k => freeT (tabOf a) s p k || (tabOf a p k && s.any (atP (p : Int) (k : Int)))) 168 := cnt_ext fun k hk => by
        unfold freeT
        cases tabOf a p k <;> cases s.any (atP (p : Int) (k : Int)) <;> rfl
      rw [e1, e2, cnt_or fun k hk => by
        unfold freeT
        cases tabOf a p k <;> cases s.any (atP (p : Int) (k : Int)) <;> simp]
      exact Int.natCast_add _ _
    · cases h
  · rw [freeF_bad hp] at h; cases h
theorem taken_step {a : List W3} {s : List B4} {p k : Nat} : takenN a s p (k + 1) = takenN a s p k + (if (tabOf a p k && s.any (atP (p : Int) (k : Int))) = true then 1 else 0) := by
  unfold takenN
  rw [cnt]
theorem who_any {s : List B4} {p h : Nat} (hs : BookP s) (hp : InR (p : Int) 1 9) (hh : InR (h : Int) 0 167) : (whoF s (p : Int) (h : Int)).2 = s.any (atP (p : Int) (h : Int)) := by
  unfold whoF
  rw [if_pos ⟨hs, hp, hh⟩]
  cases hf : s.find? (atP (p : Int) (h : Int)) with
  | none =>
    show false = _
    rw [List.find?_eq_none] at hf
    symm
    rw [List.any_eq_false]
    exact hf
  | some x =>
    show true = _
    symm
    rw [List.any_eq_true]
    exact ⟨x, List.mem_of_find?_eq_some hf, List.find?_some hf⟩
end Go.Proofs.Ytipndibiioajmaa
