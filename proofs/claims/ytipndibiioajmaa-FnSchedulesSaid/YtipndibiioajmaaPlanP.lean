/-
  The first schedule: plain.
-/
import Derived.Test.YtipndibiioajmaaOpen
import Derived.Test.YtipndibiioajmaaSched
namespace Go.Proofs.Ytipndibiioajmaa

abbrev B4 := Int × Int × Int × Int
/-- A place and hours that are open for a rehearsal and collide with nothing. -/
def okAt (W : List (Int × Int × Int)) (S : List B4) (r : Int × Int) (f p : Int) : Prop := forP W p f (f + r.2) ∧ ¬∃ y ∈ S, ColP r.1 p f (f + r.2) y.1 y.2.1 y.2.2.1 y.2.2.2
/-- Nothing fits before hour f, nor at hour f in a place before p. -/
def noneTo (W : List (Int × Int × Int)) (S : List B4) (r : Int × Int) (f p : Int) : Prop := ∀ f' p', 0 ≤ f' → (f' < f ∨ (f' = f ∧ p' < p)) → ¬okAt W S r f' p'
def FstP (W : List (Int × Int × Int)) (S : List B4) (r : Int × Int) (x : Int × Int) : Prop := 0 ≤ x.1 ∧ x.1 + r.2 ≤ 168 ∧ okAt W S r x.1 x.2 ∧ noneTo W S r x.1 x.2
theorem FstP.eq {W : List (Int × Int × Int)} {S : List B4} {r x y : Int × Int} (hx : FstP W S r x) (hy : FstP W S r y) : x = y := by
  obtain ⟨x1, x2⟩ := x
  obtain ⟨y1, y2⟩ := y
  obtain ⟨a1, a2, a3, a4⟩ := hx
  obtain ⟨b1, b2, b3, b4⟩ := hy
  dsimp only at *
  by_cases h : x1 = y1 ∧ x2 = y2
  · rw [h.1, h.2]
  · exfalso
    by_cases g : x1 < y1 ∨ (x1 = y1 ∧ x2 < y2)
    · exact b4 x1 x2 a1 g a3
    · exact a4 y1 y2 b1 (by omega) b3
open Classical in
/-- The first booked one of a rehearsal beside others. -/
noncomputable def firstB (W : List (Int × Int × Int)) (S : List B4) (r : Int × Int) : Option B4 :=
  if h : ∃ x, FstP W S r x then some (r.1, (Classical.choose h).2, (Classical.choose h).1, (Classical.choose h).1 + r.2) else none
theorem firstB_some {W : List (Int × Int × Int)} {S : List B4} {r : Int × Int} {f p : Int} (h0 : 0 ≤ f) (h1 : f + r.2 ≤ 168) (h2 : okAt W S r f p) (h3 : noneTo W S r f p) : firstB W S r = some (r.1, p, f, f + r.2) := by
  have hf : FstP W S r (f, p) := ⟨h0, h1, h2, h3⟩
  unfold firstB
  rw [dif_pos ⟨_, hf⟩]
  have := FstP.eq (Classical.choose_spec (⟨_, hf⟩ : ∃ x, FstP W S r x)) hf
  rw [this]
theorem firstB_none {W : List (Int × Int × Int)} {S : List B4} {r : Int × Int} (h : ∀ f p, 0 ≤ f → f + r.2 ≤ 168 → ¬okAt W S r f p) : firstB W S r = none := by
  unfold firstB
  rw [dif_neg]
  rintro ⟨x, hx⟩
  exact h _ _ hx.1 hx.2.1 hx.2.2.1
theorem firstB_is {W : List (Int × Int × Int)} {S : List B4} {r : Int × Int} {x : B4} (h : firstB W S r = some x) : ∃ f p, 0 ≤ f ∧ f + r.2 ≤ 168 ∧ okAt W S r f p ∧ noneTo W S r f p ∧ x = (r.1, p, f, f + r.2) := by
  unfold firstB at h
  split at h
  · rename_i g
    have := Classical.choose_spec g
    cases h
    exact ⟨_, _, this.1, this.2.1, this.2.2.1, this.2.2.2, rfl⟩
  · cases h
theorem noneTo.zero {W : List (Int × Int × Int)} {S : List B4} {r : Int × Int} (hW : WinsP W) : noneTo W S r 0 1 := by
  intro f p h0 h ⟨⟨y, hy, h1, _⟩, _⟩
  have := hW.1 y hy
  omega
theorem noneTo.next {W : List (Int × Int × Int)} {S : List B4} {r : Int × Int} {f : Int} (hW : WinsP W) (h : noneTo W S r f 10) : noneTo W S r (f + 1) 1 := by
  intro f' p' h0 h' hok
  by_cases e : f' < f
  · exact h f' p' h0 (.inl e) hok
  · obtain ⟨⟨y, hy, h1, _⟩, _⟩ := id hok
    have := hW.1 y hy
    exact h f' p' h0 (by omega) hok
theorem noneTo.place {W : List (Int × Int × Int)} {S : List B4} {r : Int × Int} {f p : Int} (h : noneTo W S r f p) (hn : ¬okAt W S r f p) : noneTo W S r f (p + 1) := by
  intro f' p' h0 h' hok
  by_cases e : f' = f ∧ p' = p
  · obtain ⟨rfl, rfl⟩ := e
    exact hn hok
  · exact h f' p' h0 (by omega) hok
theorem noneTo.last {W : List (Int × Int × Int)} {S : List B4} {r : Int × Int} {f : Int} (h : noneTo W S r f 1) (hf : 168 < f + r.2) : ∀ f' p', 0 ≤ f' → f' + r.2 ≤ 168 → ¬okAt W S r f' p' :=
  fun f' p' h0 h1 => h f' p' h0 (.inl (by omega))
/-- The program's way: the windows in their order. -/
def wnNo (W : List (Int × Int × Int)) (S : List B4) (r : Int × Int) (f : Int) (x : Int × Int × Int) : Prop := ¬(x.2.1 ≤ f ∧ f + r.2 ≤ x.2.2 ∧ ¬∃ y ∈ S, ColP r.1 x.1 f (f + r.2) y.1 y.2.1 y.2.2.1 y.2.2.2)
theorem noneTo.win {W : List (Int × Int × Int)} {S : List B4} {r : Int × Int} {f : Int} {k : Nat} {x : Int × Int × Int} (hW : WinsP W) (h : noneTo W S r f 1) (ha : AllTo (wnNo W S r f) W k) (hx : W[k]? = some x) : noneTo W S r f x.1 := by
  intro f' p' h0 h' hok
  by_cases e : f' < f
  · exact h f' p' h0 (.inl e) hok
  · have hff : f' = f := by omega
    subst hff
    obtain ⟨⟨y, hy, rfl, h2, h3⟩, hc⟩ := hok
    obtain ⟨i, hi, rfl⟩ := List.getElem_of_mem hy
    obtain ⟨hk, rfl⟩ := List.getElem?_eq_some_iff.1 hx
    have hik : i < k := by
      rcases Nat.lt_trichotomy i k with g | g | g
      · exact g
      · subst g; omega
      · have := List.pairwise_iff_getElem.1 (winsP_pair hW) k i hk hi g
        omega
    exact ha i _ hik (List.getElem?_eq_getElem hi) ⟨h2, h3, hc⟩
theorem noneTo.wins {W : List (Int × Int × Int)} {S : List B4} {r : Int × Int} {f : Int} (hW : WinsP W) (h : noneTo W S r f 1) (ha : ∀ x ∈ W, wnNo W S r f x) : noneTo W S r (f + 1) 1 := by
  intro f' p' h0 h' hok
  obtain ⟨⟨y, hy, rfl, h2, h3⟩, hc⟩ := id hok
  have hy1 := hW.1 y hy
  by_cases e : f' < f
  · exact h f' y.1 h0 (.inl e) hok
  · have hff : f' = f := by omega
    subst hff
    exact ha y hy ⟨h2, h3, hc⟩
theorem okAt.place {W : List (Int × Int × Int)} {S : List B4} {r : Int × Int} {f p : Int} (hW : WinsP W) (h : okAt W S r f p) : 1 ≤ p ∧ p ≤ 9 := by
  obtain ⟨⟨y, hy, rfl, _⟩, _⟩ := h
  exact (hW.1 y hy).1
/-- Valid booked ones and one more. -/
theorem bookP_snoc {S : List B4} {a p f t : Int} (hS : BookP S) (h6 : S.length < 6) (hb : BkP a p f t) : BookP (S ++ [(a, p, f, t)]) ↔ ¬∃ y ∈ S, ColP a p f t y.1 y.2.1 y.2.2.1 y.2.2.2 := by
  constructor
  · rintro h ⟨y, hy, hc⟩
    obtain ⟨j, hj, rfl⟩ := List.getElem_of_mem hy
    refine h.2.1 S.length j (a, p, f, t) S[j] hj (by simp) (by rw [List.getElem?_append_left hj, List.getElem?_eq_getElem hj]) ?_
    dsimp only
    omega
  · intro h
    refine ⟨fun x hx => ?_, fun i j x y hj hx hy hc => ?_, by simp; omega⟩
    · rcases List.mem_append.1 hx with hx | hx
      · exact hS.1 x hx
      · simp at hx; subst hx; exact hb
    · have hi : i < (S ++ [(a, p, f, t)]).length := (List.getElem?_eq_some_iff.1 hx).1
      rw [List.length_append, List.length_singleton] at hi
      have hy' : S[j]? = some y := by rw [← hy, List.getElem?_append_left (by omega)]
      rcases Nat.lt_or_ge i S.length with g | g
      · exact hS.2.1 i j x y hj (by rw [← hx, List.getElem?_append_left g]) hy' hc
      · obtain rfl : i = S.length := by omega
        rw [List.getElem?_append_right (Nat.le_refl _), Nat.sub_self] at hx
        simp at hx
        subst hx
        have hys := mem_of_get hy'
        have := hS.1 y hys
        exact h ⟨y, hys, by dsimp only at hc; omega⟩
theorem firstB_bkP {W : List (Int × Int × Int)} {S : List B4} {r : Int × Int} {x : B4} (hW : WinsP W) (hr : ReP r.1 r.2) (h : firstB W S r = some x) : BkP x.1 x.2.1 x.2.2.1 x.2.2.2 := by
  obtain ⟨f, p, h0, h1, h2, _, rfl⟩ := firstB_is h
  have := h2.place hW
  dsimp only
  omega
theorem firstB_book {W : List (Int × Int × Int)} {S : List B4} {r : Int × Int} {x : B4} (hW : WinsP W) (hr : ReP r.1 r.2) (hS : BookP S) (h6 : S.length < 6) (h : firstB W S r = some x) : BookP (S ++ [x]) := by
  have hb := firstB_bkP hW hr h
  obtain ⟨f, p, h0, h1, h2, _, rfl⟩ := firstB_is h
  exact (bookP_snoc hS h6 hb).2 h2.2
/-- The schedule of rehearsals, one behind the other. -/
noncomputable def schedGo (W : List (Int × Int × Int)) : List B4 → List (Int × Int) → Option (List B4)
  | S, [] => some S
  | S, r :: rs => match firstB W S r with
    | none => none
    | some x => schedGo W (S ++ [x]) rs
theorem schedGo_cons_some {W : List (Int × Int × Int)} {S : List B4} {r : Int × Int} {rs : List (Int × Int)} {x : B4} (h : firstB W S r = some x) : schedGo W S (r :: rs) = schedGo W (S ++ [x]) rs := by
  rw [schedGo, h]
theorem schedGo_cons_none {W : List (Int × Int × Int)} {S : List B4} {r : Int × Int} {rs : List (Int × Int)} (h : firstB W S r = none) : schedGo W S (r :: rs) = none := by
  rw [schedGo, h]
theorem schedGo_book {W : List (Int × Int × Int)} (hW : WinsP W) : ∀ (L : List (Int × Int)) (S T : List B4), (∀ r ∈ L, ReP r.1 r.2) → BookP S → S.length + L.length ≤ 6 → schedGo W S L = some T → BookP T ∧ T.length = S.length + L.length
  | [], S, T, _, hS, _, h => by cases h; exact ⟨hS, by simp⟩
  | r :: rs, S, T, hL, hS, h6, h => by
    simp only [List.length_cons] at h6
    cases hf : firstB W S r with
    | none => rw [schedGo_cons_none hf] at h; cases h
    | some x =>
      rw [schedGo_cons_some hf] at h
      have := schedGo_book hW rs (S ++ [x]) T (fun q hq => hL q (List.mem_cons_of_mem _ hq)) (firstB_book hW (hL r (List.mem_cons_self ..)) hS (by omega) hf) (by simp; omega) h
      refine ⟨this.1, ?_⟩
      rw [this.2]
      simp
      omega
open Classical in
noncomputable def planF (W : List (Int × Int × Int)) (L : List (Int × Int)) : List B4 × Bool :=
  if WinsP W ∧ RehP L then (match schedGo W [] L with | some S => (S, true) | none => ([], false)) else ([], false)
theorem planF_bad {W : List (Int × Int × Int)} {L : List (Int × Int)} (h : ¬(WinsP W ∧ RehP L)) : planF W L = ([], false) := by unfold planF; rw [if_neg h]
theorem planF_none {W : List (Int × Int × Int)} {L : List (Int × Int)} (h : schedGo W [] L = none) : planF W L = ([], false) := by unfold planF; split <;> (first | rw [h] | rfl)
theorem planF_some {W : List (Int × Int × Int)} {L : List (Int × Int)} {S : List B4} (hP : WinsP W ∧ RehP L) (h : schedGo W [] L = some S) : planF W L = (S, true) := by unfold planF; rw [if_pos hP, h]
theorem bookP_nil : BookP [] := ⟨by simp, by simp, by simp⟩
theorem planF_len (W : List (Int × Int × Int)) (L : List (Int × Int)) : (planF W L).1.length ≤ 1048576 := by
  unfold planF
  split
  · rename_i h
    cases hs : schedGo W [] L with
    | none => simp
    | some S =>
      have := (schedGo_book h.1 L [] S h.2.1 bookP_nil (by simpa using h.2.2) hs).2
      have := h.2.2
      simp at *
      omega
  · simp

end Go.Proofs.Ytipndibiioajmaa
