/-
  The windows of a table of hours: plain.
-/
import Derived.Test.YtipndibiioajmaaWin
import Derived.Test.YtipndibiioajmaaOpen
namespace Go.Proofs.Ytipndibiioajmaa

abbrev W3 := Int × Int × Int
/-- What an hour adds to the windows so far. -/
def wstep (p h : Nat) (on : Bool) (out : List W3) : List W3 :=
  if on then
    match out.getLast? with
    | some y => if y.1 = (p : Int) ∧ y.2.2 = (h : Int) then out.dropLast ++ [(y.1, y.2.1, (h : Int) + 1)] else out ++ [((p : Int), (h : Int), (h : Int) + 1)]
    | none => [((p : Int), (h : Int), (h : Int) + 1)]
  else out
def wrow (T : Nat → Nat → Bool) (p : Nat) : Nat → List W3 → List W3
  | 0, out => out
  | h + 1, out => wstep p h (T p h) (wrow T p h out)
def wtab (T : Nat → Nat → Bool) : Nat → List W3
  | 0 => []
  | p + 1 => wrow T p 168 (wtab T p)

/-- Windows that a walk through place p up to hour h may have found. -/
def WOk (p h : Nat) (l : List W3) : Prop :=
  (∀ x ∈ l, 1 ≤ x.1 ∧ 0 ≤ x.2.1 ∧ x.2.1 < x.2.2 ∧ x.2.2 ≤ 168 ∧ (x.1 < p ∨ (x.1 = p ∧ x.2.2 ≤ h))) ∧ l.Pairwise (fun y x => y.1 < x.1 ∨ (y.1 = x.1 ∧ y.2.2 < x.2.1))
theorem WOk.nil (p h : Nat) : WOk p h [] := ⟨by simp, .nil⟩
theorem WOk.more {p h p' h' : Nat} {l : List W3} (k : WOk p h l) (hp : p < p' ∨ (p = p' ∧ h ≤ h')) : WOk p' h' l :=
  ⟨fun x hx => by have := k.1 x hx; omega, k.2⟩
theorem wstep_last {p h : Nat} {out : List W3} {f : Int} : wstep p h true (out ++ [((p : Int), f, (h : Int))]) = out ++ [((p : Int), f, (h : Int) + 1)] := by
  unfold wstep
  simp
theorem wstep_new {p h : Nat} {out : List W3} (hn : ∀ x ∈ out, ¬(x.1 = (p : Int) ∧ x.2.2 = (h : Int))) : wstep p h true out = out ++ [((p : Int), (h : Int), (h : Int) + 1)] := by
  unfold wstep
  rw [if_pos rfl]
  cases hl : out.getLast? with
  | none =>
    rw [List.getLast?_eq_none_iff] at hl
    subst hl
    rfl
  | some y =>
    dsimp only
    rw [if_neg (hn y (List.mem_of_getLast? hl))]
theorem wstep_off {p h : Nat} {out : List W3} : wstep p h false out = out := by
  unfold wstep
  simp
theorem wstep_ok {p h : Nat} {on : Bool} {l : List W3} (k : WOk p h l) (hp : 1 ≤ p ∨ on = false) (hh : h < 168) : WOk p (h + 1) (wstep p h on l) := by
  cases on with
  | false => rw [wstep_off]; exact k.more (.inr ⟨rfl, by omega⟩)
  | true =>
    have hp : 1 ≤ p := by simpa using hp
    rcases List.eq_nil_or_concat l with rfl | ⟨l', y, rfl⟩
    · rw [wstep_new (by simp)]
      refine ⟨fun x hx => ?_, by simp⟩
      simp at hx
      subst hx
      dsimp only
      omega
    · rw [List.concat_eq_append] at *
      have hy := k.1 y (by simp)
      by_cases hm : y.1 = (p : Int) ∧ y.2.2 = (h : Int)
      · obtain ⟨y1, y2, y3⟩ := y
        obtain ⟨rfl, rfl⟩ := hm
        rw [wstep_last]
        have hk2 := List.pairwise_append.1 k.2
        dsimp only at hy
        refine ⟨fun x hx => ?_, ?_⟩
        · rcases List.mem_append.1 hx with hx | hx
          · have := k.1 x (List.mem_append_left _ hx); omega
          · simp at hx; subst hx; dsimp only; omega
        · rw [List.pairwise_append]
          refine ⟨hk2.1, by simp, fun a ha b hb => ?_⟩
          have := hk2.2.2 a ha ((p : Int), y2, (h : Int)) (by simp)
          simp at hb; subst hb
          exact this
      · rw [wstep_new (fun x hx => ?_)]
        · refine ⟨fun x hx => ?_, ?_⟩
          · rcases List.mem_append.1 hx with hx | hx
            · have := k.1 x hx; omega
            · simp at hx; subst hx; dsimp only; omega
          · rw [List.pairwise_append]
            refine ⟨k.2, by simp, fun a ha b hb => ?_⟩
            simp at hb; subst hb
            have h1 := k.1 a ha
            dsimp only
            rcases List.mem_append.1 ha with ha' | ha'
            · have := (List.pairwise_append.1 k.2).2.2 a ha' y (by simp)
              omega
            · simp at ha'; subst ha'; omega
        · rcases List.mem_append.1 hx with hx' | hx'
          · have h1 := (List.pairwise_append.1 k.2).2.2 x hx' y (by simp)
            have h2 := k.1 x hx
            omega
          · simp at hx'; subst hx'; exact hm
theorem wrow_ok {T : Nat → Nat → Bool} {p : Nat} {l : List W3} (k : WOk p 0 l) (hp : 1 ≤ p ∨ ∀ h, T p h = false) : ∀ h, h ≤ 168 → WOk p h (wrow T p h l)
  | 0, _ => k
  | h + 1, hh => wstep_ok (wrow_ok k hp h (by omega)) (hp.imp id fun g => g h) (by omega)
theorem wtab_ok {T : Nat → Nat → Bool} (h0 : ∀ h, T 0 h = false) : ∀ p, WOk p 0 (wtab T p)
  | 0 => WOk.nil _ _
  | p + 1 => (wrow_ok (wtab_ok h0 p) (by rcases Nat.eq_zero_or_pos p with rfl | h; exact .inr h0; exact .inl h) 168 (by omega)).more (.inl (by omega))
theorem wstep_len (p h : Nat) (on : Bool) (l : List W3) : (wstep p h on l).length ≤ l.length + 1 := by
  unfold wstep
  split
  · split
    · split
      · simp only [List.length_append, List.length_dropLast, List.length_singleton]; omega
      · simp
    · simp
  · omega
theorem wrow_len (T : Nat → Nat → Bool) (p : Nat) (l : List W3) : ∀ h, (wrow T p h l).length ≤ l.length + h
  | 0 => by simp [wrow]
  | h + 1 => by have := wstep_len p h (T p h) (wrow T p h l); have := wrow_len T p l h; unfold wrow; omega
theorem wtab_len (T : Nat → Nat → Bool) : ∀ p, (wtab T p).length ≤ 168 * p
  | 0 => by simp [wtab]
  | p + 1 => by have := wrow_len T p (wtab T p) 168; have := wtab_len T p; unfold wtab; omega
theorem wok_adj {p h : Nat} {l : List W3} (k : WOk p h l) : ∀ i x y, l[i]? = some y → l[i + 1]? = some x → NextP y x := by
  intro i x y hy hx
  obtain ⟨hi, rfl⟩ := List.getElem?_eq_some_iff.1 hy
  obtain ⟨hj, rfl⟩ := List.getElem?_eq_some_iff.1 hx
  have := List.pairwise_iff_getElem.1 k.2 i (i + 1) hi hj (by omega)
  unfold NextP
  omega
/-- The windows of a table are valid unless they are too many. -/
theorem wtab_good {T : Nat → Nat → Bool} (h0 : ∀ h, T 0 h = false) : WinsP (wtab T 10) ↔ (wtab T 10).length ≤ 20 := by
  have k := wtab_ok h0 10
  refine ⟨fun h => h.2.2, fun h => ⟨fun x hx => by have := k.1 x hx; omega, wok_adj k, h⟩⟩

/-- One run of open hours, found at once. -/
theorem wrow_run {T : Nat → Nat → Bool} {p f : Nat} {l : List W3} (k : ∀ x ∈ wrow T p f l, ¬(x.1 = (p : Int) ∧ x.2.2 = (f : Int))) :
    ∀ n, (∀ h, f ≤ h → h < f + (n + 1) → T p h = true) → wrow T p (f + (n + 1)) l = wrow T p f l ++ [((p : Int), (f : Int), ((f + (n + 1) : Nat) : Int))]
  | 0, ht => by
    show wstep p f (T p f) (wrow T p f l) = _
    rw [ht f (by omega) (by omega), wstep_new k]
    simp
  | n + 1, ht => by
    have ih := wrow_run k n (fun h h1 h2 => ht h h1 (by omega))
    show wstep p (f + (n + 1)) (T p (f + (n + 1))) (wrow T p (f + (n + 1)) l) = _
    rw [ht _ (by omega) (by omega), ih, wstep_last]
    simp; omega
theorem wrow_off {T : Nat → Nat → Bool} {p h : Nat} {l : List W3} (ht : T p h = false) : wrow T p (h + 1) l = wrow T p h l := by
  show wstep p h (T p h) (wrow T p h l) = _
  rw [ht, wstep_off]
theorem wtab_zero {T : Nat → Nat → Bool} (h0 : ∀ h, T 0 h = false) : wtab T 1 = [] := by
  have : ∀ h, wrow T 0 h [] = [] := by
    intro h
    induction h with
    | zero => rfl
    | succ h ih => rw [wrow_off (h0 h), ih]
  exact this 168
theorem wtab_ext {T U : Nat → Nat → Bool} (h : ∀ p, p < 10 → ∀ k, k < 168 → T p k = U p k) : wtab T 10 = wtab U 10 := by
  have hr : ∀ p, p < 10 → ∀ (l : List W3) (k : Nat), k ≤ 168 → wrow T p k l = wrow U p k l := by
    intro p hp l k
    induction k with
    | zero => intro _; rfl
    | succ k ih => intro hk; show wstep _ _ _ _ = wstep _ _ _ _; rw [h p hp k (by omega), ih (by omega)]
  have ht : ∀ p, p ≤ 10 → wtab T p = wtab U p := by
    intro p
    induction p with
    | zero => intro _; rfl
    | succ p ih => intro hp; show wrow _ _ _ _ = wrow _ _ _ _; rw [ih (by omega), hr p (by omega) _ _ (by omega)]
  exact ht 10 (by omega)

end Go.Proofs.Ytipndibiioajmaa
