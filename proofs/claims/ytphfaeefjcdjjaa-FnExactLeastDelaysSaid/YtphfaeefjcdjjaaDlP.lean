/-
  The least delays, plain: a search in depth that leaves what cannot be better finds what a search sum by sum finds.
-/
import Derived.Test.YtphfaeefjcdjjaaList
namespace Go.Proofs.Ytphfaeefjcdjjaa
open Go.RowKit
set_option linter.unusedVariables false

def sumL : List Int → Int
  | [] => 0
  | x :: l => x + sumL l
theorem sumL_append : ∀ a b : List Int, sumL (a ++ b) = sumL a + sumL b
  | [], b => by simp [sumL]
  | x :: a, b => by rw [List.cons_append, sumL, sumL, sumL_append a b]; omega
theorem sumL_snoc (a : List Int) (x : Int) : sumL (a ++ [x]) = sumL a + x := by rw [sumL_append]; simp [sumL]
theorem sumL_bd : ∀ {l : List Int}, (∀ x ∈ l, 0 ≤ x ∧ x ≤ 4) → 0 ≤ sumL l ∧ sumL l ≤ 4 * l.length
  | [], _ => by simp [sumL]
  | x :: l, h => by
    have h1 := h x (by simp)
    have h2 := sumL_bd (l := l) fun y hy => h y (by simp [hy])
    rw [sumL, List.length_cons]
    omega

/-- Whether a delay d of the next performer keeps it apart from the first k. -/
def goodTo (cl : Nat → Nat → Nat → Nat → Bool) (ds : List Int) (d k : Nat) : Bool := (List.range k).all fun j => !cl j ds.length (ds.getD j 0).toNat d
def goodB (cl : Nat → Nat → Nat → Nat → Bool) (ds : List Int) (d : Nat) : Bool := goodTo cl ds d ds.length
theorem goodTo_succ (cl : Nat → Nat → Nat → Nat → Bool) (ds : List Int) (d k : Nat) : goodTo cl ds d (k + 1) = (goodTo cl ds d k && !cl k ds.length (ds.getD k 0).toNat d) := by
  unfold goodTo; rw [List.range_succ, List.all_append]; simp
theorem goodTo_zero (cl : Nat → Nat → Nat → Nat → Bool) (ds : List Int) (d : Nat) : goodTo cl ds d 0 = true := by simp [goodTo]

/-- All delays that begin with some, have k more, and keep all apart. -/
def allD (cl : Nat → Nat → Nat → Nat → Bool) : Nat → List Int → List (List Int)
  | 0, ds => [ds]
  | k + 1, ds => (List.range 5).flatMap fun d => if goodB cl ds d = true then allD cl k (ds ++ [(d : Int)]) else []
theorem allD_ext {cl : Nat → Nat → Nat → Nat → Bool} : ∀ {k : Nat} {ds o : List Int}, o ∈ allD cl k ds → ∃ t, o = ds ++ t ∧ t.length = k ∧ ∀ x ∈ t, 0 ≤ x ∧ x ≤ 4
  | 0, ds, o, h => by
    simp [allD] at h
    exact ⟨[], by simp [h], rfl, by simp⟩
  | k + 1, ds, o, h => by
    obtain ⟨d, hd, ho⟩ := List.mem_flatMap.1 h
    split at ho
    · obtain ⟨t, rfl, ht, hx⟩ := allD_ext ho
      refine ⟨(d : Int) :: t, by simp, by simp [ht], fun x hm => ?_⟩
      rcases List.mem_cons.1 hm with rfl | hm
      · have := List.mem_range.1 hd; omega
      · exact hx x hm
    · simp at ho
theorem allD_sum {cl : Nat → Nat → Nat → Nat → Bool} {k : Nat} {ds o : List Int} (h : o ∈ allD cl k ds) : sumL ds ≤ sumL o := by
  obtain ⟨t, rfl, _, hx⟩ := allD_ext h
  have := sumL_bd hx
  rw [sumL_append]
  omega

def stopD (st : Option (List Int × Int)) (s : Int) : Prop := match st with | some (_, e) => e ≤ s | none => False
def stepD (st : Option (List Int × Int)) (o : List Int) : Option (List Int × Int) := match st with
  | none => some (o, sumL o)
  | some (_, e) => if sumL o < e then some (o, sumL o) else st
open Classical in
/-- What the search in depth makes of the best so far. -/
noncomputable def goD (cl : Nat → Nat → Nat → Nat → Bool) : Nat → List Int → Option (List Int × Int) → Option (List Int × Int)
  | k, ds, st => if stopD st (sumL ds) then st else
    match k with
    | 0 => some (ds, sumL ds)
    | k + 1 => (List.range 5).foldl (fun st d => if goodB cl ds d = true then goD cl k (ds ++ [(d : Int)]) st else st) st
theorem goD_stop {cl : Nat → Nat → Nat → Nat → Bool} {k : Nat} {ds : List Int} {st : Option (List Int × Int)} (h : stopD st (sumL ds)) : goD cl k ds st = st := by unfold goD; rw [if_pos h]
theorem goD_zero {cl : Nat → Nat → Nat → Nat → Bool} {ds : List Int} {st : Option (List Int × Int)} (h : ¬stopD st (sumL ds)) : goD cl 0 ds st = some (ds, sumL ds) := by unfold goD; rw [if_neg h]
/-- One round of the search. -/
noncomputable def roundD (cl : Nat → Nat → Nat → Nat → Bool) (k : Nat) (ds : List Int) : Option (List Int × Int) → Nat → Option (List Int × Int) := fun st d => if goodB cl ds d = true then goD cl k (ds ++ [(d : Int)]) st else st
theorem goD_succ {cl : Nat → Nat → Nat → Nat → Bool} {k : Nat} {ds : List Int} {st : Option (List Int × Int)} (h : ¬stopD st (sumL ds)) : goD cl (k + 1) ds st = (List.range 5).foldl (roundD cl k ds) st := by
  rw [goD, if_neg h]
  rfl
theorem foldl_same {α β : Type} {f : β → α → β} {s : β} : ∀ {l : List α}, (∀ x ∈ l, f s x = s) → l.foldl f s = s
  | [], _ => rfl
  | x :: l, h => by
    rw [List.foldl_cons, h x (List.mem_cons_self ..)]
    exact foldl_same fun y hy => h y (List.mem_cons_of_mem _ hy)
theorem foldl_flatMap' {α β γ : Type} (f : β → γ → β) (g : α → List γ) : ∀ (l : List α) (s : β), (l.flatMap g).foldl f s = l.foldl (fun s x => (g x).foldl f s) s
  | [], _ => rfl
  | x :: l, s => by
    rw [List.flatMap_cons, List.foldl_append, List.foldl_cons, foldl_flatMap' f g l]
theorem foldl_congr' {α β : Type} {f g : β → α → β} : ∀ {l : List α} {s : β}, (∀ s x, x ∈ l → f s x = g s x) → l.foldl f s = l.foldl g s
  | [], _, _ => rfl
  | x :: l, s, h => by
    rw [List.foldl_cons, List.foldl_cons, h s x (List.mem_cons_self ..)]
    exact foldl_congr' fun s y hy => h s y (List.mem_cons_of_mem _ hy)
theorem goD_eq (cl : Nat → Nat → Nat → Nat → Bool) : ∀ (k : Nat) (ds : List Int) (st : Option (List Int × Int)), goD cl k ds st = (allD cl k ds).foldl stepD st
  | k, ds, st => by
    by_cases hp : stopD st (sumL ds)
    · rw [goD_stop hp]
      cases st with
      | none => exact hp.elim
      | some p =>
        obtain ⟨o', e⟩ := p
        have hp : e ≤ sumL ds := hp
        refine (foldl_same fun q hq => ?_).symm
        have := allD_sum hq
        show (if sumL q < e then _ else _) = _
        rw [if_neg (by omega)]
    · cases k with
      | zero =>
        rw [goD_zero hp]
        show _ = stepD st ds
        cases st with
        | none => rfl
        | some p =>
          obtain ⟨o', e⟩ := p
          have hp : ¬e ≤ sumL ds := hp
          show _ = if sumL ds < e then _ else _
          rw [if_pos (by omega)]
      | succ k =>
        rw [goD_succ hp]
        show (List.range 5).foldl _ st = ((List.range 5).flatMap _).foldl stepD st
        rw [foldl_flatMap']
        refine foldl_congr' fun st d _ => ?_
        unfold roundD
        by_cases hg : goodB cl ds d = true
        · rw [if_pos hg, if_pos hg]
          exact goD_eq cl k (ds ++ [(d : Int)]) st
        · rw [if_neg hg, if_neg hg]
          rfl

/-- The first delays that begin with some and have a sum more. -/
def findD (cl : Nat → Nat → Nat → Nat → Bool) : Nat → List Int → Nat → Option (List Int)
  | 0, ds, s => if 0 < s then none else some ds
  | k + 1, ds, s => (List.range (min s 4 + 1)).findSome? fun p => if goodB cl ds p = true then findD cl k (ds ++ [(p : Int)]) (s - p) else none
/-- What one delay gives. -/
def oneD (cl : Nat → Nat → Nat → Nat → Bool) (k : Nat) (ds : List Int) (s p : Nat) : Option (List Int) := if goodB cl ds p = true then findD cl k (ds ++ [(p : Int)]) (s - p) else none
theorem findD_succ (cl : Nat → Nat → Nat → Nat → Bool) (k : Nat) (ds : List Int) (s : Nat) : findD cl (k + 1) ds s = (List.range (min s 4 + 1)).findSome? (oneD cl k ds s) := rfl
theorem findSome_congr {α β : Type} {f g : α → Option β} : ∀ {l : List α}, (∀ x ∈ l, f x = g x) → l.findSome? f = l.findSome? g
  | [], _ => rfl
  | x :: l, h => by
    rw [List.findSome?_cons, List.findSome?_cons, h x (List.mem_cons_self ..), findSome_congr fun y hy => h y (List.mem_cons_of_mem _ hy)]
theorem findD_eq (cl : Nat → Nat → Nat → Nat → Bool) : ∀ (k : Nat) (ds : List Int) (s : Nat), findD cl k ds s = (allD cl k ds).find? fun o => decide (sumL o = sumL ds + s)
  | 0, ds, s => by
    by_cases h : 0 < s
    · have : decide (sumL ds = sumL ds + (s : Int)) = false := by simp; omega
      simp [findD, allD, h, this]
    · obtain rfl : s = 0 := by omega
      simp [findD, allD]
  | k + 1, ds, s => by
    rw [findD_succ, allD, List.find?_flatMap]
    have hone : ∀ p, p ≤ s → oneD cl k ds s p = (if goodB cl ds p = true then allD cl k (ds ++ [(p : Int)]) else []).find? fun o => decide (sumL o = sumL ds + s) := by
      intro p hp
      unfold oneD
      by_cases hg : goodB cl ds p = true
      · rw [if_pos hg, if_pos hg, findD_eq cl k]
        congr 1
        funext o
        rw [sumL_snoc]
        congr 1
        refine propext ?_
        omega
      · rw [if_neg hg, if_neg hg]; rfl
    have hno : ∀ p, s < p → ((if goodB cl ds p = true then allD cl k (ds ++ [(p : Int)]) else []).find? fun o => decide (sumL o = sumL ds + s)) = none := by
      intro p hp
      rw [List.find?_eq_none]
      intro o ho
      split at ho
      · have := allD_sum ho
        rw [sumL_snoc] at this
        simp
        omega
      · simp at ho
    rw [findSome_congr (g := fun p => (if goodB cl ds p = true then allD cl k (ds ++ [(p : Int)]) else []).find? fun o => decide (sumL o = sumL ds + s)) fun p hp => hone p (by have := List.mem_range.1 hp; omega)]
    obtain ⟨r, hr⟩ : ∃ r, 5 = (min s 4 + 1) + r := ⟨4 - min s 4, by omega⟩
    have e : List.range 5 = List.range (min s 4 + 1) ++ (List.range r).map (fun x => (min s 4 + 1) + x) := by
      rw [hr]; exact List.range_add
    rw [e, List.findSome?_append]
    have hz : ((List.range r).map (fun x => (min s 4 + 1) + x)).findSome? (fun p => (if goodB cl ds p = true then allD cl k (ds ++ [(p : Int)]) else []).find? fun o => decide (sumL o = sumL ds + s)) = none := by
      rw [List.findSome?_eq_none_iff]
      intro p hp
      obtain ⟨x, hx, rfl⟩ := List.mem_map.1 hp
      have := List.mem_range.1 hx
      exact hno _ (by omega)
    rw [hz, Option.or_none]

/-- What a fold of stepD has found. -/
def LeastIn (l : List (List Int)) : Option (List Int × Int) → Prop
  | none => l = []
  | some (o, e) => e = sumL o ∧ (l.find? fun x => decide (sumL x = e)) = some o ∧ ∀ x ∈ l, e ≤ sumL x
theorem leastIn_step {l : List (List Int)} {st : Option (List Int × Int)} (h : LeastIn l st) (x : List Int) : LeastIn (l ++ [x]) (stepD st x) := by
  cases st with
  | none =>
    have h : l = [] := h
    subst h
    refine ⟨rfl, by simp, fun y hy => ?_⟩
    simp at hy
    subst hy
    exact Int.le_refl _
  | some p =>
    obtain ⟨o, e⟩ := p
    obtain ⟨h1, h2, h3⟩ := h
    by_cases hlt : sumL x < e
    · rw [show stepD (some (o, e)) x = some (x, sumL x) by simp [stepD, hlt]]
      refine ⟨rfl, ?_, fun y hy => ?_⟩
      · rw [List.find?_append]
        have hn : (l.find? fun y => decide (sumL y = sumL x)) = none := by
          rw [List.find?_eq_none]
          intro y hy
          have := h3 y hy
          simp
          omega
        rw [hn]
        simp
      · rcases List.mem_append.1 hy with hy | hy
        · have := h3 y hy; omega
        · simp at hy; subst hy; exact Int.le_refl _
    · rw [show stepD (some (o, e)) x = some (o, e) by simp [stepD, hlt]]
      refine ⟨h1, by rw [List.find?_append, h2]; rfl, fun y hy => ?_⟩
      rcases List.mem_append.1 hy with hy | hy
      · exact h3 y hy
      · simp at hy; subst hy; omega
theorem leastIn_fold : ∀ (l pre : List (List Int)) (st : Option (List Int × Int)), LeastIn pre st → LeastIn (pre ++ l) (l.foldl stepD st)
  | [], pre, st, h => by rw [List.append_nil]; exact h
  | x :: l, pre, st, h => by
    rw [show pre ++ x :: l = (pre ++ [x]) ++ l by simp, List.foldl_cons]
    exact leastIn_fold l _ _ (leastIn_step h x)

/-- The best delays of n performers. -/
noncomputable def bestD (cl : Nat → Nat → Nat → Nat → Bool) (n : Nat) : Option (List Int × Int) := goD cl n [] none
theorem bestD_in (cl : Nat → Nat → Nat → Nat → Bool) (n : Nat) : LeastIn (allD cl n []) (bestD cl n) := by
  unfold bestD
  rw [goD_eq]
  simpa using leastIn_fold (allD cl n []) [] none rfl
theorem bestD_none {cl : Nat → Nat → Nat → Nat → Bool} {n : Nat} (h : bestD cl n = none) (s : Nat) : findD cl n [] s = none := by
  have := bestD_in cl n
  rw [h] at this
  have : allD cl n [] = [] := this
  rw [findD_eq, this]
  rfl
theorem bestD_some {cl : Nat → Nat → Nat → Nat → Bool} {n : Nat} {o : List Int} {e : Int} (h : bestD cl n = some (o, e)) :
    ∃ s : Nat, e = s ∧ s ≤ 4 * n ∧ findD cl n [] s = some o ∧ (∀ s', s' < s → findD cl n [] s' = none) ∧ o.length = n := by
  have hin := bestD_in cl n
  rw [h] at hin
  obtain ⟨h1, h2, h3⟩ := hin
  have hm := List.mem_of_find?_eq_some h2
  obtain ⟨t, he, ht, hx⟩ := allD_ext hm
  rw [List.nil_append] at he
  subst he
  have hb := sumL_bd hx
  obtain ⟨s, hs⟩ := Int.eq_ofNat_of_zero_le (show 0 ≤ e by omega)
  subst hs
  refine ⟨s, rfl, by omega, ?_, fun s' hs' => ?_, ht⟩
  · rw [findD_eq]
    simpa [sumL] using h2
  · rw [findD_eq, List.find?_eq_none]
    intro x hx
    have := h3 x hx
    simp [sumL]
    omega
theorem findD_len {cl : Nat → Nat → Nat → Nat → Bool} {k s : Nat} {ds o : List Int} (h : findD cl k ds s = some o) : o.length = ds.length + k := by
  rw [findD_eq] at h
  obtain ⟨t, rfl, ht, _⟩ := allD_ext (List.mem_of_find?_eq_some h)
  rw [List.length_append, ht]
theorem goD_len {cl : Nat → Nat → Nat → Nat → Bool} {n : Nat} {o : List Int} {e : Int} (h : bestD cl n = some (o, e)) : o.length = n := by
  obtain ⟨_, _, _, _, _, h⟩ := bestD_some h
  exact h
end Go.Proofs.Ytphfaeefjcdjjaa
