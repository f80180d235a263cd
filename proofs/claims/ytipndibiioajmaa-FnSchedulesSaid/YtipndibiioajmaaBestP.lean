/-
  The best order, plain: a search that goes on in depth and leaves what cannot be better finds what a look at every order finds.
-/
import Derived.Test.YtipndibiioajmaaEarlD
import Derived.Test.YtipndibiioajmaaHours
namespace Go.Proofs.Ytipndibiioajmaa
open Go.RowKit

/-- All orders of n that begin with b and have k more. -/
def ordsF (n : Nat) : Nat → List Int → List (List Int)
  | 0, b => [b]
  | k + 1, b => (upN n).flatMap fun i => if i ∈ b then [] else ordsF n k (b ++ [i])
def pickR (L : List (Int × Int)) (o : List Int) : List (Int × Int) := o.map fun i => L.getD i.toNat (0, 0)
theorem pickR_snoc (L : List (Int × Int)) (o : List Int) (i : Int) : pickR L (o ++ [i]) = pickR L o ++ [L.getD i.toNat (0, 0)] := by simp [pickR]
theorem pickR_len (L : List (Int × Int)) (o : List Int) : (pickR L o).length = o.length := by simp [pickR]
theorem ordsF_ext {n : Nat} : ∀ {k : Nat} {b o : List Int}, o ∈ ordsF n k b → ∃ t, o = b ++ t ∧ t.length = k
  | 0, b, o, h => by
    simp [ordsF] at h
    exact ⟨[], by simp [h], rfl⟩
  | k + 1, b, o, h => by
    obtain ⟨i, _, hi⟩ := List.mem_flatMap.1 h
    split at hi
    · simp at hi
    · obtain ⟨t, rfl, ht⟩ := ordsF_ext hi
      exact ⟨i :: t, by simp, by simp [ht]⟩
theorem ordsF_in {n : Nat} : ∀ {k : Nat} {b o : List Int}, (∀ i ∈ b, 0 ≤ i ∧ i < n) → o ∈ ordsF n k b → ∀ i ∈ o, 0 ≤ i ∧ i < n
  | 0, b, o, hb, h => by
    simp [ordsF] at h
    subst h
    exact hb
  | k + 1, b, o, hb, h => by
    obtain ⟨i, hi, ho⟩ := List.mem_flatMap.1 h
    split at ho
    · simp at ho
    · refine ordsF_in (fun j hj => ?_) ho
      rcases List.mem_append.1 hj with hj | hj
      · exact hb j hj
      · simp at hj
        subst hj
        simp [upN] at hi
        obtain ⟨a, ha, rfl⟩ := hi
        omega
/-- One order looked at. -/
noncomputable def bestStep (W : List (Int × Int × Int)) (L : List (Int × Int)) (st : Option (List Int × Int)) (o : List Int) : Option (List Int × Int) :=
  match schedGo W [] (pickR L o) with
  | none => st
  | some s => match st with
    | none => some (o, endF s)
    | some (_, e) => if endF s < e then some (o, endF s) else st
/-- The best of all orders. -/
noncomputable def bestF (W : List (Int × Int × Int)) (L : List (Int × Int)) : Option (List Int × Int) := (ordsF L.length L.length []).foldl (bestStep W L) none

theorem schedGo_append {W : List (Int × Int × Int)} : ∀ (a b : List (Int × Int)) (S : List B4), schedGo W S (a ++ b) = (schedGo W S a).bind fun T => schedGo W T b
  | [], b, S => rfl
  | r :: a, b, S => by
    cases h : firstB W S r with
    | none => rw [List.cons_append, schedGo_cons_none h, schedGo_cons_none h]; rfl
    | some x => rw [List.cons_append, schedGo_cons_some h, schedGo_cons_some h, schedGo_append a b]
theorem schedGo_grow {W : List (Int × Int × Int)} : ∀ (a : List (Int × Int)) (S T : List B4), schedGo W S a = some T → ∃ U, T = S ++ U
  | [], S, T, h => by
    obtain rfl : S = T := Option.some.inj h
    exact ⟨[], by simp⟩
  | r :: a, S, T, h => by
    cases hf : firstB W S r with
    | none => rw [schedGo_cons_none hf] at h; cases h
    | some x =>
      rw [schedGo_cons_some hf] at h
      obtain ⟨U, rfl⟩ := schedGo_grow a _ _ h
      exact ⟨x :: U, by simp⟩
theorem endF_grow (S U : List B4) : endF S ≤ endF (S ++ U) := by
  have : ∀ (l : List B4) (m : Int), m ≤ l.foldl (fun m x => max m x.2.2.2) m := by
    intro l
    induction l with
    | nil => intro m; exact Int.le_refl _
    | cons y l ih => intro m; rw [List.foldl_cons]; have := ih (max m y.2.2.2); omega
  unfold endF
  rw [List.foldl_append]
  exact this _ _
def stops (st : Option (List Int × Int)) (S : List B4) : Prop := match st with | some (_, e) => e ≤ endF S | none => False
open Classical in
/-- What a search that has come to an order and its booked ones makes of the best so far. -/
noncomputable def tryF (W : List (Int × Int × Int)) (L : List (Int × Int)) : Nat → List Int → List B4 → Option (List Int × Int) → Option (List Int × Int)
  | k, o, S, st => if stops st S then st else
    match k with
    | 0 => some (o, endF S)
    | k + 1 => (upN L.length).foldl (fun st i => if i ∈ o then st else match firstB W S (L.getD i.toNat (0, 0)) with
      | some x => tryF W L k (o ++ [i]) (S ++ [x]) st
      | none => st) st
theorem foldl_same {α β : Type} {f : β → α → β} {s : β} : ∀ {l : List α}, (∀ x ∈ l, f s x = s) → l.foldl f s = s
  | [], _ => rfl
  | x :: l, h => by
    rw [List.foldl_cons, h x (List.mem_cons_self ..)]
    exact foldl_same fun y hy => h y (List.mem_cons_of_mem _ hy)
theorem foldl_flatMap' {α β γ : Type} (f : β → γ → β) (g : α → List γ) : ∀ (l : List α) (s : β), (l.flatMap g).foldl f s = l.foldl (fun s x => (g x).foldl f s) s
  | [], _ => rfl
  | x :: l, s => by
    rw [List.flatMap_cons, List.foldl_append, List.foldl_cons, foldl_flatMap' f g l]
theorem foldl_congr' {α β : Type} {f g : β → α → β} : ∀ {l : List α} {s : β}, (∀ s x, x ∈ l → f s x = g s x) → l.foldl f s = l.foldl g s
  | [], _, _ => rfl
  | x :: l, s, h => by
    rw [List.foldl_cons, List.foldl_cons, h s x (List.mem_cons_self ..)]
    exact foldl_congr' fun s y hy => h s y (List.mem_cons_of_mem _ hy)
theorem try_eq (W : List (Int × Int × Int)) (L : List (Int × Int)) : ∀ (k : Nat) (o : List Int) (S : List B4) (st : Option (List Int × Int)), schedGo W [] (pickR L o) = some S → tryF W L k o S st = (ordsF L.length k o).foldl (bestStep W L) st
  | k, o, S, st, h => by
    unfold tryF
    by_cases hp : stops st S
    · rw [if_pos hp]
      cases st with
      | none => exact hp.elim
      | some p =>
        obtain ⟨o', e⟩ := p
        have hp : e ≤ endF S := hp
        refine (foldl_same fun q hq => ?_).symm
        obtain ⟨t, rfl, _⟩ := ordsF_ext hq
        unfold bestStep
        rw [show pickR L (o ++ t) = pickR L o ++ pickR L t by simp [pickR], schedGo_append, h]
        show (match schedGo W S (pickR L t) with | none => _ | some s => _) = _
        cases hs : schedGo W S (pickR L t) with
        | none => rfl
        | some s =>
          obtain ⟨U, rfl⟩ := schedGo_grow _ _ _ hs
          have := endF_grow S U
          show (if endF (S ++ U) < e then _ else _) = _
          rw [if_neg (by omega)]
    · rw [if_neg hp]
      cases k with
      | zero =>
        show _ = bestStep W L st o
        unfold bestStep
        rw [h]
        cases st with
        | none => rfl
        | some p =>
          obtain ⟨o', e⟩ := p
          have hp : ¬e ≤ endF S := hp
          show _ = if endF S < e then _ else _
          rw [if_pos (by omega)]
      | succ k =>
        show (upN L.length).foldl _ st = ((upN L.length).flatMap _).foldl (bestStep W L) st
        rw [foldl_flatMap']
        refine foldl_congr' fun st i _ => ?_
        by_cases hi : i ∈ o
        · rw [if_pos hi, if_pos hi]
          rfl
        · rw [if_neg hi, if_neg hi]
          have hs : schedGo W [] (pickR L (o ++ [i])) = match firstB W S (L.getD i.toNat (0, 0)) with | some x => some (S ++ [x]) | none => none := by
            rw [pickR_snoc, schedGo_append, h]
            show schedGo W S [_] = _
            cases hf : firstB W S (L.getD i.toNat (0, 0)) with
            | none => exact schedGo_cons_none hf
            | some x => rw [schedGo_cons_some hf]; rfl
          cases hf : firstB W S (L.getD i.toNat (0, 0)) with
          | some x =>
            rw [hf] at hs
            exact try_eq W L k (o ++ [i]) (S ++ [x]) st hs
          | none =>
            rw [hf] at hs
            refine (foldl_same fun q hq => ?_).symm
            obtain ⟨t, rfl, _⟩ := ordsF_ext hq
            unfold bestStep
            rw [show pickR L (o ++ [i] ++ t) = pickR L (o ++ [i]) ++ pickR L t by simp [pickR], schedGo_append, hs]
            rfl
theorem try_best (W : List (Int × Int × Int)) (L : List (Int × Int)) : tryF W L L.length [] [] none = bestF W L := try_eq W L L.length [] [] none rfl
end Go.Proofs.Ytipndibiioajmaa
