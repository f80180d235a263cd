/-
  Free windows: plain.
-/
import Derived.Test.YtipndibiioajmaaHourI
import Derived.Test.YtipndibiioajmaaTabO
import Derived.Test.YtipndibiioajmaaWho
import Derived.Test.YtipndibiioajmaaPlanP
namespace Go.Proofs.Ytipndibiioajmaa

/-- The table without the hours of the booked ones. -/
def freeT (T : Nat → Nat → Bool) (S : List B4) : Nat → Nat → Bool := fun p h => T p h && !S.any (atP (p : Int) (h : Int))
theorem freeT_nil (T : Nat → Nat → Bool) : freeT T [] = T := by
  funext p h
  simp [freeT]
theorem freeT_take {T : Nat → Nat → Bool} {S : List B4} {k : Nat} {a : Int} {p f t : Nat} (hx : S[k]? = some (a, (p : Int), (f : Int), (t : Int))) : freeT T (S.take (k + 1)) = setT (freeT T (S.take k)) p f t false := by
  funext q h
  unfold freeT setT
  rw [List.take_add_one, hx, Option.toList_some, List.any_append, List.any_cons, List.any_nil, Bool.or_false]
  unfold atP
  dsimp only
  by_cases hc : q = p ∧ f ≤ h ∧ h < t
  · rw [if_pos hc, show decide ((p : Int) = (q : Int) ∧ (f : Int) ≤ (h : Int) ∧ (h : Int) < (t : Int)) = true by simp; omega]
    simp
  · rw [if_neg hc, show decide ((p : Int) = (q : Int) ∧ (f : Int) ≤ (h : Int) ∧ (h : Int) < (t : Int)) = false by simp; omega]
    simp
theorem freeT_zero {W : List W3} {S : List B4} (hW : WinsP W) (h : Nat) : freeT (tabOf W) S 0 h = false := by
  unfold freeT
  rw [tabOf_zero hW]
  rfl
noncomputable def freeF (W : List W3) (S : List B4) : List W3 × Bool := open Classical in if WinsP W ∧ BookP S then winF (freeT (tabOf W) S) else ([], false)
theorem freeF_bad {W : List W3} {S : List B4} (h : ¬(WinsP W ∧ BookP S)) : freeF W S = ([], false) := by unfold freeF; rw [if_neg h]
theorem freeF_ok {W : List W3} {S : List B4} (h : WinsP W ∧ BookP S) : freeF W S = winF (freeT (tabOf W) S) := by unfold freeF; rw [if_pos h]
theorem freeF_len (W : List W3) (S : List B4) : (freeF W S).1.length ≤ 1048576 := by
  unfold freeF
  split
  · exact winF_len _
  · simp
theorem bkP_nat {x : B4} (h : BkP x.1 x.2.1 x.2.2.1 x.2.2.2) : ∃ (a : Int) (p f t : Nat), x = (a, (p : Int), (f : Int), (t : Int)) ∧ 1 ≤ p ∧ p < 10 ∧ f < t ∧ t ≤ 168 := by
  obtain ⟨a, x1, x2, x3⟩ := x
  dsimp only at h
  obtain ⟨p, rfl⟩ := Int.eq_ofNat_of_zero_le (show 0 ≤ x1 by omega)
  obtain ⟨f, rfl⟩ := Int.eq_ofNat_of_zero_le (show 0 ≤ x2 by omega)
  obtain ⟨t, rfl⟩ := Int.eq_ofNat_of_zero_le (show 0 ≤ x3 by omega)
  exact ⟨a, p, f, t, rfl, by omega, by omega, by omega, by omega⟩
theorem findP_any {p : B4 → Bool} {S : List B4} : (findP p S 0 < 0) ↔ S.any p = false := by
  rcases findP_cases p S 0 with ⟨k, x, h1, h2, h3⟩ | ⟨h1, h3⟩
  · rw [h1]
    refine ⟨fun h => absurd h (by omega), fun h => ?_⟩
    have := List.find?_some h3
    rw [List.any_eq_false] at h
    exact absurd this (h x (List.mem_of_find?_eq_some h3))
  · rw [h1]
    refine ⟨fun _ => ?_, fun _ => by omega⟩
    rw [List.any_eq_false]
    rw [List.find?_eq_none] at h3
    exact h3

/-- A stretch of closed hours adds nothing. -/
theorem wrow_gap {T : Nat → Nat → Bool} {p h : Nat} {l : List W3} : ∀ n, (∀ j, h ≤ j → j < h + n → T p j = false) → wrow T p (h + n) l = wrow T p h l
  | 0, _ => rfl
  | n + 1, k => by
    show wrow T p (h + n + 1) l = _
    rw [wrow_off (k (h + n) (by omega) (by omega)), wrow_gap n (fun j h1 h2 => k j h1 (by omega))]
theorem wtab_gap {T : Nat → Nat → Bool} {p : Nat} : ∀ n, (∀ q, p ≤ q → q < p + n → ∀ j, j < 168 → T q j = false) → wtab T (p + n) = wtab T p
  | 0, _ => rfl
  | n + 1, k => by
    show wrow T (p + n) 168 (wtab T (p + n)) = _
    rw [wtab_gap n (fun q h1 h2 => k q h1 (by omega))]
    have := wrow_gap (T := T) (p := p + n) (h := 0) (l := wtab T p) 168 (fun j _ h2 => k (p + n) (by omega) (by omega) j (by omega))
    rw [Nat.zero_add] at this
    exact this
/-- What is found up to an hour of a place. -/
def wpos (T : Nat → Nat → Bool) (p h : Nat) : List W3 := wrow T p h (wtab T p)
theorem wpos_gap {T : Nat → Nat → Bool} {p h p' h' : Nat} (hh : h ≤ 168) (hh' : h' ≤ 168) (hle : p < p' ∨ (p = p' ∧ h ≤ h'))
    (hT : ∀ q j, j < 168 → (p < q ∨ (p = q ∧ h ≤ j)) → (q < p' ∨ (q = p' ∧ j < h')) → T q j = false) : wpos T p' h' = wpos T p h := by
  unfold wpos
  rcases hle with hlt | ⟨rfl, hle⟩
  · have h1 : wtab T (p + 1) = wrow T p h (wtab T p) := by
      show wrow T p 168 (wtab T p) = _
      have := wrow_gap (T := T) (p := p) (h := h) (l := wtab T p) (168 - h) (fun j h1 h2 => hT p j (by omega) (.inr ⟨rfl, h1⟩) (.inl hlt))
      rwa [show h + (168 - h) = 168 by omega] at this
    have h2 : wtab T p' = wtab T (p + 1) := by
      have := wtab_gap (T := T) (p := p + 1) (p' - (p + 1)) (fun q h1 h2 j hj => hT q j hj (.inl (by omega)) (.inl (by omega)))
      rwa [show p + 1 + (p' - (p + 1)) = p' by omega] at this
    have h3 := wrow_gap (T := T) (p := p') (h := 0) (l := wtab T p') h' (fun j _ h2 => hT p' j (by omega) (.inl hlt) (.inr ⟨rfl, by omega⟩))
    rw [Nat.zero_add] at h3
    rw [h3, ← h1, ← h2]
    rfl
  · have := wrow_gap (T := T) (p := p) (h := h) (l := wtab T p) (h' - h) (fun j h1 h2 => hT p j (by omega) (.inr ⟨rfl, h1⟩) (.inr ⟨rfl, by omega⟩))
    rwa [show h + (h' - h) = h' by omega] at this
theorem wpos_end {T : Nat → Nat → Bool} : wpos T 10 0 = wtab T 10 := rfl
theorem wpos_len (T : Nat → Nat → Bool) (p h : Nat) : (wpos T p h).length ≤ 168 * p + h := by
  have h1 := wrow_len T p (wtab T p) h
  have h2 := wtab_len T p
  unfold wpos
  omega

/-- Where the k-th window begins. -/
def begP (W : List W3) (k : Nat) : Nat × Nat := match W[k]? with | some x => (x.1.toNat, x.2.1.toNat) | none => (10, 0)
def fOut (T : Nat → Nat → Bool) (W : List W3) (k : Nat) : List W3 := wpos T (begP W k).1 (begP W k).2
theorem begP_some {W : List W3} {k p f t : Nat} (hx : W[k]? = some ((p : Int), (f : Int), (t : Int))) : begP W k = (p, f) := by
  unfold begP
  rw [hx]
  rfl
theorem begP_none {W : List W3} {k : Nat} (hk : W.length ≤ k) : begP W k = (10, 0) := by
  unfold begP
  rw [List.getElem?_eq_none hk]
theorem tabOf_false {W : List W3} {p h : Nat} (k : ∀ (i : Nat) (x : W3), W[i]? = some x → ¬(x.1 = (p : Int) ∧ x.2.1 ≤ (h : Int) ∧ (h : Int) < x.2.2)) : tabOf W p h = false := by
  unfold tabOf
  rw [List.any_eq_false]
  intro x hx
  obtain ⟨i, hi, rfl⟩ := List.getElem_of_mem hx
  simp only [decide_eq_true_eq]
  exact k i _ (List.getElem?_eq_some_iff.2 ⟨hi, rfl⟩)
theorem freeT_false {T : Nat → Nat → Bool} {S : List B4} {p h : Nat} (k : T p h = false) : freeT T S p h = false := by
  unfold freeT
  rw [k]
  rfl
theorem wins_get {W : List W3} (hW : WinsP W) {i j : Nat} {x y : W3} (hij : i < j) (hx : W[i]? = some x) (hy : W[j]? = some y) : x.1 < y.1 ∨ (x.1 = y.1 ∧ x.2.2 < y.2.1) := by
  obtain ⟨hi, rfl⟩ := List.getElem?_eq_some_iff.1 hx
  obtain ⟨hj, rfl⟩ := List.getElem?_eq_some_iff.1 hy
  exact List.pairwise_iff_getElem.1 (winsP_pair hW) i j hi hj hij
theorem fOut_zero {W : List W3} (S : List B4) (hW : WinsP W) : fOut (freeT (tabOf W) S) W 0 = [] := by
  unfold fOut
  have h0 : wpos (freeT (tabOf W) S) 0 0 = [] := rfl
  rw [← h0]
  rcases hx : W[0]? with _ | x
  · rw [begP_none (by simpa using hx)]
    refine wpos_gap (by omega) (by omega) (.inl (by omega)) (fun q j _ _ _ => freeT_false (tabOf_false fun i x hi => ?_))
    simp only [List.getElem?_eq_none_iff] at hx
    have := (List.getElem?_eq_some_iff.1 hi).1
    omega
  · obtain ⟨p, f, t, rfl, h1, h2, h3, h4⟩ := winP_nat (hW.1 x (mem_of_get hx))
    rw [begP_some hx]
    refine wpos_gap (by omega) (by omega) (.inl (by omega)) (fun q j _ _ hlt => freeT_false (tabOf_false fun i y hi => ?_))
    rcases Nat.eq_zero_or_pos i with rfl | hi0
    · rw [hx] at hi
      cases hi
      dsimp only
      dsimp only at hlt
      omega
    · have := wins_get hW hi0 hx hi
      dsimp only at this hlt
      omega
theorem fOut_next {W : List W3} (S : List B4) (hW : WinsP W) {k p f t : Nat} (hx : W[k]? = some ((p : Int), (f : Int), (t : Int))) : fOut (freeT (tabOf W) S) W (k + 1) = wpos (freeT (tabOf W) S) p t := by
  have hP := hW.1 _ (mem_of_get hx)
  dsimp only at hP
  unfold fOut
  have hgap : ∀ q j, (p < q ∨ (p = q ∧ t ≤ j)) → (∀ i y, k < i → W[i]? = some y → ((q : Int) < y.1 ∨ ((q : Int) = y.1 ∧ (j : Int) < y.2.1))) → freeT (tabOf W) S q j = false := by
    intro q j hge hlt
    refine freeT_false (tabOf_false fun i y hi => ?_)
    rcases Nat.lt_trichotomy i k with hik | rfl | hik
    · have h1 := wins_get hW hik hi hx
      have h2 := hW.1 _ (mem_of_get hi)
      dsimp only at h1
      omega
    · rw [hx] at hi
      cases hi
      dsimp only
      omega
    · have := hlt i y hik hi
      omega
  rcases hy : W[k + 1]? with _ | y
  · simp only [List.getElem?_eq_none_iff] at hy
    rw [begP_none hy]
    refine wpos_gap (by omega) (by omega) (.inl (show p < 10 by omega)) (fun q j _ hge _ => hgap q j hge fun i y hi hg => ?_)
    have := (List.getElem?_eq_some_iff.1 hg).1
    omega
  · obtain ⟨p', f', t', rfl, h1, h2, h3, h4⟩ := winP_nat (hW.1 y (mem_of_get hy))
    rw [begP_some hy]
    have hn := wins_get hW (Nat.lt_succ_self k) hx hy
    dsimp only at hn
    refine wpos_gap (by omega) (by omega) (by dsimp only; omega) (fun q j _ hge hlt => hgap q j hge fun i z hi hg => ?_)
    dsimp only at hlt
    rcases Nat.lt_or_ge (k + 1) i with h5 | h5
    · have h6 := wins_get hW h5 hy hg
      dsimp only at h6
      omega
    · obtain rfl : i = k + 1 := by omega
      rw [hy] at hg
      cases hg
      dsimp only
      omega
theorem fOut_end {T : Nat → Nat → Bool} {W : List W3} : fOut T W W.length = wtab T 10 := by
  unfold fOut
  rw [begP_none (Nat.le_refl _)]
  rfl
theorem tabOf_in {W : List W3} {k p f t h : Nat} (hx : W[k]? = some ((p : Int), (f : Int), (t : Int))) (h1 : f ≤ h) (h2 : h < t) : tabOf W p h = true := by
  unfold tabOf
  rw [List.any_eq_true]
  exact ⟨_, mem_of_get hx, by simp; omega⟩
theorem freeT_in {W : List W3} {S : List B4} {k p f t h : Nat} (hx : W[k]? = some ((p : Int), (f : Int), (t : Int))) (h1 : f ≤ h) (h2 : h < t) : freeT (tabOf W) S p h = !S.any (atP (p : Int) (h : Int)) := by
  unfold freeT
  rw [tabOf_in hx h1 h2]
  rfl
theorem tabOf_before {W : List W3} (hW : WinsP W) {k p f t : Nat} (hx : W[k]? = some ((p : Int), (f : Int), (t : Int))) (h1 : 0 < f) : tabOf W p (f - 1) = false := by
  refine tabOf_false fun i y hi => ?_
  rcases Nat.lt_trichotomy i k with hik | rfl | hik
  · have h1 := wins_get hW hik hi hx
    dsimp only at h1
    omega
  · rw [hx] at hi
    cases hi
    dsimp only
    omega
  · have h1 := wins_get hW hik hx hi
    have h2 := hW.1 _ (mem_of_get hx)
    dsimp only at h1 h2
    omega

/-- The walk through the hours of one window: hour h, the run so far begins at g. -/
def FIn (T : Nat → Nat → Bool) (p t h g : Nat) (out : List W3) : Prop :=
  (h ≤ t ∧ g ≤ h ∧ out = wpos T p g ∧ (g = 0 ∨ T p (g - 1) = false) ∧ ∀ j, g ≤ j → j < h → T p j = true) ∨ (h = t + 1 ∧ out = wpos T p t)
theorem FIn.start {T : Nat → Nat → Bool} {p f t : Nat} (hft : f ≤ t) (h : f = 0 ∨ T p (f - 1) = false) : FIn T p t f f (wpos T p f) := .inl ⟨hft, Nat.le_refl _, rfl, h, fun j h1 h2 => absurd h1 (by omega)⟩
theorem FIn.free {T : Nat → Nat → Bool} {p t h g : Nat} {out : List W3} (k : FIn T p t h g out) (hlt : h < t) (hT : T p h = true) : FIn T p t (h + 1) g out := by
  rcases k with ⟨k1, k2, k3, k4, k5⟩ | ⟨k1, _⟩
  · refine .inl ⟨by omega, by omega, k3, k4, fun j h1 h2 => ?_⟩
    by_cases e : j = h
    · rw [e]; exact hT
    · exact k5 j h1 (by omega)
  · omega
theorem wpos_run {T : Nat → Nat → Bool} {p g h : Nat} (h0 : ∀ h, T 0 h = false) (hp : 1 ≤ p) (hh : h ≤ 168) (hgh : g < h) (hg : g = 0 ∨ T p (g - 1) = false) (ht : ∀ j, g ≤ j → j < h → T p j = true) :
    wpos T p h = wpos T p g ++ [((p : Int), (g : Int), (h : Int))] := by
  obtain ⟨n, rfl⟩ : ∃ n, h = g + (n + 1) := ⟨h - g - 1, by omega⟩
  refine wrow_run ?_ n ht
  cases g with
  | zero => exact (wtab_ok h0 p).noEnd (.inr rfl)
  | succ g =>
    have hg : T p g = false := by simpa using hg
    rw [wrow_off hg]
    exact (wrow_ok (wtab_ok h0 p) (.inl hp) g (by omega)).noEnd (.inl (by omega))
theorem FIn.close {T : Nat → Nat → Bool} {p t h g : Nat} {out : List W3} (k : FIn T p t h g out) (h0 : ∀ h, T 0 h = false) (hp : 1 ≤ p) (ht : t ≤ 168) (hlt : h < t) (hT : T p h = false) :
    FIn T p t (h + 1) (h + 1) (if g < h then out ++ [((p : Int), (g : Int), (h : Int))] else out) := by
  rcases k with ⟨k1, k2, rfl, k4, k5⟩ | ⟨k1, _⟩
  · refine .inl ⟨by omega, Nat.le_refl _, ?_, .inr (by simpa using hT), fun j h1 h2 => absurd h1 (by omega)⟩
    have hs : wpos T p (h + 1) = wpos T p h := wrow_off hT
    rw [hs]
    by_cases e : g < h
    · rw [if_pos e, wpos_run h0 hp (by omega) e k4 k5]
    · rw [if_neg e, show g = h by omega]
  · omega
theorem FIn.last {T : Nat → Nat → Bool} {p t g : Nat} {out : List W3} (k : FIn T p t t g out) (h0 : ∀ h, T 0 h = false) (hp : 1 ≤ p) (ht : t ≤ 168) :
    FIn T p t (t + 1) (t + 1) (if g < t then out ++ [((p : Int), (g : Int), (t : Int))] else out) := by
  rcases k with ⟨k1, k2, rfl, k4, k5⟩ | ⟨k1, _⟩
  · refine .inr ⟨rfl, ?_⟩
    by_cases e : g < t
    · rw [if_pos e, wpos_run h0 hp (by omega) e k4 k5]
    · rw [if_neg e, show g = t by omega]
  · omega
theorem FIn.done {T : Nat → Nat → Bool} {p t h g : Nat} {out : List W3} (k : FIn T p t h g out) (hlt : t < h) : out = wpos T p t := by
  rcases k with ⟨k1, _⟩ | ⟨_, k2⟩
  · omega
  · exact k2
theorem FIn.len {T : Nat → Nat → Bool} {p t h g : Nat} {out : List W3} (k : FIn T p t h g out) (hp : p < 10) (ht : t ≤ 168) : out.length ≤ 1680 := by
  rcases k with ⟨k1, k2, rfl, k4, k5⟩ | ⟨_, rfl⟩
  · have := wpos_len T p g; omega
  · have := wpos_len T p t; omega
end Go.Proofs.Ytipndibiioajmaa
