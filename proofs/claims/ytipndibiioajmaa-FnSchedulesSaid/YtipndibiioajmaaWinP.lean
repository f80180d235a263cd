/-
  Open hours of windows: plain.
-/
import Derived.Test.YtipndibiioajmaaHourI
import Derived.Test.YtipndibiioajmaaTabO
namespace Go.Proofs.Ytipndibiioajmaa

theorem openP_append {l m : List W3} {n h : Int} : openP (l ++ m) n h ↔ openP l n h ∨ openP m n h := by
  unfold openP
  constructor
  · rintro ⟨x, hx, r⟩
    rcases List.mem_append.1 hx with hx | hx
    · exact .inl ⟨x, hx, r⟩
    · exact .inr ⟨x, hx, r⟩
  · rintro (⟨x, hx, r⟩ | ⟨x, hx, r⟩)
    · exact ⟨x, List.mem_append_left _ hx, r⟩
    · exact ⟨x, List.mem_append_right _ hx, r⟩
theorem openP_one {x : W3} {n h : Int} : openP [x] n h ↔ x.1 = n ∧ x.2.1 ≤ h ∧ h < x.2.2 := by
  unfold openP
  simp
theorem openP_step {p k : Nat} {on : Bool} {out : List W3} (hk : WOk p k out) (q h : Nat) : openP (wstep p k on out) (q : Int) (h : Int) ↔ openP out (q : Int) (h : Int) ∨ (on = true ∧ q = p ∧ h = k) := by
  cases on with
  | false =>
    rw [wstep_off]
    simp
  | true =>
    rcases List.eq_nil_or_concat out with rfl | ⟨l', y, rfl⟩
    · rw [wstep_new (by simp), openP_append, openP_one]
      dsimp only
      constructor
      · rintro (h1 | h1)
        · exact .inl h1
        · exact .inr ⟨rfl, by omega, by omega⟩
      · rintro (h1 | h1)
        · exact .inl h1
        · exact .inr (by omega)
    · rw [List.concat_eq_append] at *
      have hy := hk.1 y (by simp)
      by_cases hm : y.1 = (p : Int) ∧ y.2.2 = (k : Int)
      · obtain ⟨y1, y2, y3⟩ := y
        obtain ⟨rfl, rfl⟩ := hm
        dsimp only at hy
        rw [wstep_last, openP_append, openP_append, openP_one, openP_one]
        dsimp only
        constructor
        · rintro (h1 | h1)
          · exact .inl (.inl h1)
          · by_cases e : h = k
            · exact .inr ⟨rfl, by omega, e⟩
            · exact .inl (.inr (by omega))
        · rintro ((h1 | h1) | h1)
          · exact .inl h1
          · exact .inr (by omega)
          · exact .inr (by omega)
      · have hall : ∀ x ∈ l' ++ [y], ¬(x.1 = (p : Int) ∧ x.2.2 = (k : Int)) := fun x hx => by
          rcases List.mem_append.1 hx with hx' | hx'
          · have h1 := (List.pairwise_append.1 hk.2).2.2 x hx' y (by simp)
            have h2 := hk.1 x hx
            omega
          · simp at hx'; subst hx'; exact hm
        rw [wstep_new hall, openP_append, openP_one]
        dsimp only
        constructor
        · rintro (h1 | h1)
          · exact .inl h1
          · exact .inr ⟨rfl, by omega, by omega⟩
        · rintro (h1 | h1)
          · exact .inl h1
          · exact .inr (by omega)
theorem openP_row {T : Nat → Nat → Bool} {p : Nat} {l : List W3} (k : WOk p 0 l) (hp : 1 ≤ p ∨ ∀ h, T p h = false) (q h : Nat) : ∀ n, n ≤ 168 → (openP (wrow T p n l) (q : Int) (h : Int) ↔ openP l (q : Int) (h : Int) ∨ (q = p ∧ h < n ∧ T p h = true))
  | 0, _ => by
    show openP l _ _ ↔ _
    constructor
    · exact .inl
    · rintro (h1 | h1)
      · exact h1
      · omega
  | n + 1, hn => by
    show openP (wstep p n (T p n) (wrow T p n l)) _ _ ↔ _
    rw [openP_step (wrow_ok k hp n (by omega)), openP_row k hp q h n (by omega)]
    constructor
    · rintro ((h1 | h1) | h1)
      · exact .inl h1
      · exact .inr ⟨h1.1, by omega, h1.2.2⟩
      · exact .inr ⟨h1.2.1, by omega, by rw [h1.2.2]; exact h1.1⟩
    · rintro (h1 | h1)
      · exact .inl (.inl h1)
      · by_cases e : h = n
        · subst e
          exact .inr ⟨h1.2.2, h1.1, rfl⟩
        · exact .inl (.inr ⟨h1.1, by omega, h1.2.2⟩)
theorem openP_tab {T : Nat → Nat → Bool} (h0 : ∀ h, T 0 h = false) (q h : Nat) (hh : h < 168) : ∀ n, (openP (wtab T n) (q : Int) (h : Int) ↔ q < n ∧ T q h = true)
  | 0 => by
    show openP [] _ _ ↔ _
    unfold openP
    simp
  | n + 1 => by
    show openP (wrow T n 168 (wtab T n)) _ _ ↔ _
    rw [openP_row (wtab_ok h0 n) (by rcases Nat.eq_zero_or_pos n with rfl | h; exact .inr h0; exact .inl h) q h 168 (Nat.le_refl _), openP_tab h0 q h hh n]
    constructor
    · rintro (h1 | h1)
      · exact ⟨by omega, h1.2⟩
      · exact ⟨by omega, by rw [h1.1]; exact h1.2.2⟩
    · rintro ⟨h1, h2⟩
      by_cases e : q = n
      · subst e
        exact .inr ⟨rfl, hh, h2⟩
      · exact .inl ⟨by omega, h2⟩
/-- The table of the windows of a table is that table. -/
theorem tab_tab {T : Nat → Nat → Bool} (h0 : ∀ h, T 0 h = false) {p h : Nat} (hp : p < 10) (hh : h < 168) : tabOf (wtab T 10) p h = T p h := by
  have h1 := openP_tab h0 p h hh 10
  rw [← tabOf_open] at h1
  cases h2 : T p h with
  | true => exact h1.2 ⟨hp, h2⟩
  | false =>
    cases h3 : tabOf (wtab T 10) p h with
    | false => rfl
    | true =>
      have := (h1.1 h3).2
      rw [h2] at this
      cases this

/-- How often a test holds below a bound. -/
def cnt (f : Nat → Bool) : Nat → Nat
  | 0 => 0
  | n + 1 => cnt f n + if f n = true then 1 else 0
theorem cnt_ext {f g : Nat → Bool} : ∀ {n}, (∀ k, k < n → f k = g k) → cnt f n = cnt g n
  | 0, _ => rfl
  | n + 1, h => by
    show cnt f n + _ = cnt g n + _
    rw [cnt_ext (n := n) (fun k hk => h k (by omega)), h n (by omega)]
theorem cnt_or {f g : Nat → Bool} : ∀ {n}, (∀ k, k < n → ¬(f k = true ∧ g k = true)) → cnt (fun k => f k || g k) n = cnt f n + cnt g n
  | 0, _ => rfl
  | n + 1, h => by
    have ih := cnt_or (f := f) (g := g) (n := n) (fun k hk => h k (by omega))
    have hn := h n (by omega)
    have hb : (if (f n || g n) = true then 1 else 0) = (if f n = true then 1 else 0) + (if g n = true then 1 else 0) := by
      revert hn
      cases f n <;> cases g n <;> simp
    show cnt (fun k => f k || g k) n + (if (f n || g n) = true then 1 else 0) = cnt f n + (if f n = true then 1 else 0) + (cnt g n + (if g n = true then 1 else 0))
    omega
theorem cnt_or_le {f g : Nat → Bool} : ∀ {n}, cnt (fun k => f k || g k) n ≤ cnt f n + cnt g n
  | 0 => Nat.le_refl _
  | n + 1 => by
    have ih := cnt_or_le (f := f) (g := g) (n := n)
    have hb : (if (f n || g n) = true then 1 else 0) ≤ (if f n = true then 1 else 0) + (if g n = true then 1 else 0) := by
      cases f n <;> cases g n <;> simp
    show cnt (fun k => f k || g k) n + (if (f n || g n) = true then 1 else 0) ≤ cnt f n + (if f n = true then 1 else 0) + (cnt g n + (if g n = true then 1 else 0))
    omega
theorem cnt_mono {f g : Nat → Bool} : ∀ {n}, (∀ k, k < n → f k = true → g k = true) → cnt f n ≤ cnt g n
  | 0, _ => Nat.le_refl _
  | n + 1, h => by
    show cnt f n + _ ≤ cnt g n + _
    have := cnt_mono (n := n) (fun k hk => h k (by omega))
    cases hf : f n with
    | true => rw [h n (by omega) hf]; omega
    | false => simp; omega
theorem cnt_none {f : Nat → Bool} : ∀ {n}, (∀ k, k < n → f k = false) → cnt f n = 0
  | 0, _ => rfl
  | n + 1, h => by
    show cnt f n + _ = 0
    rw [cnt_none (n := n) (fun k hk => h k (by omega)), h n (by omega)]
    rfl
theorem cnt_range (a b : Int) (ha : 0 ≤ a) (hab : a ≤ b) : ∀ n : Nat, (cnt (fun k => decide (a ≤ (k : Int) ∧ (k : Int) < b)) n : Int) = if (n : Int) ≤ a then 0 else if (n : Int) ≤ b then (n : Int) - a else b - a
  | 0 => by
    show ((0 : Nat) : Int) = _
    rw [if_pos (by omega)]
    rfl
  | n + 1 => by
    have ih := cnt_range a b ha hab n
    have hb : ((if decide (a ≤ (n : Int) ∧ (n : Int) < b) = true then 1 else 0 : Nat) : Int) = if a ≤ (n : Int) ∧ (n : Int) < b then 1 else 0 := by
      by_cases h : a ≤ (n : Int) ∧ (n : Int) < b
      · rw [if_pos h, if_pos (by simpa using h)]; rfl
      · rw [if_neg h, if_neg (by simpa using h)]; rfl
    show ((cnt (fun k => decide (a ≤ (k : Int) ∧ (k : Int) < b)) n + (if decide (a ≤ (n : Int) ∧ (n : Int) < b) = true then 1 else 0) : Nat) : Int) = _
    rw [Int.natCast_add, ih, hb]
    repeat' split
    all_goals omega
/-- The hours of a place. -/
def hoursS (p : Int) : List W3 → Int
  | [] => 0
  | x :: l => (if x.1 = p then x.2.2 - x.2.1 else 0) + hoursS p l
theorem hoursS_append (p : Int) (l m : List W3) : hoursS p (l ++ m) = hoursS p l + hoursS p m := by
  induction l with
  | nil => simp [hoursS]
  | cons x l ih => simp only [List.cons_append, hoursS, ih]; omega
theorem hours_cnt {p : Nat} : ∀ {l : List W3}, (∀ x ∈ l, WinP x.1 x.2.1 x.2.2) → l.Pairwise (fun y x => y.1 < x.1 ∨ (y.1 = x.1 ∧ y.2.2 < x.2.1)) → hoursS (p : Int) l = (cnt (fun h => tabOf l p h) 168 : Int)
  | [], _, _ => by
    rw [cnt_none (f := fun h => tabOf [] p h) (n := 168) (fun k _ => rfl)]
    rfl
  | x :: l, hw, hp => by
    have ih := hours_cnt (p := p) (l := l) (fun y hy => hw y (List.mem_cons_of_mem _ hy)) (List.pairwise_cons.1 hp).2
    have hx := hw x (by simp)
    have hsplit : ∀ k, tabOf (x :: l) p k = (decide (x.1 = (p : Int) ∧ x.2.1 ≤ (k : Int) ∧ (k : Int) < x.2.2) || tabOf l p k) := fun k => rfl
    have hdis : ∀ k : Nat, k < 168 → ¬((decide (x.1 = (p : Int) ∧ x.2.1 ≤ (k : Int) ∧ (k : Int) < x.2.2)) = true ∧ tabOf l p k = true) := by
      rintro k _ ⟨h1, h2⟩
      simp only [decide_eq_true_eq] at h1
      obtain ⟨y, hy, h3⟩ := tabOf_open.1 h2
      have := (List.pairwise_cons.1 hp).1 y hy
      omega
    rw [hoursS, ih, cnt_ext (fun k _ => hsplit k), cnt_or hdis, Int.natCast_add]
    congr 1
    by_cases e : x.1 = (p : Int)
    · rw [if_pos e, cnt_ext (g := fun k => decide (x.2.1 ≤ (k : Int) ∧ (k : Int) < x.2.2)) (fun k _ => by simp [e]), cnt_range _ _ (by omega) (by omega)]
      by_cases h3 : ((168 : Nat) : Int) ≤ x.2.1
      · omega
      · rw [if_neg h3]
        by_cases h4 : ((168 : Nat) : Int) ≤ x.2.2
        · rw [if_pos h4]; omega
        · rw [if_neg h4]
    · rw [if_neg e, cnt_none (fun k _ => by simp [e])]
      rfl
theorem hours_win {p : Nat} {l : List W3} (h : WinsP l) : hoursS (p : Int) l = (cnt (fun k => tabOf l p k) 168 : Int) := hours_cnt h.1 (winsP_pair h)
/-- What AddWindow adds. -/
theorem add_hours {l : List W3} {p f t : Nat} (hl : WinsP l) (hf : f < t) (ht : t ≤ 168) (hp : p < 10) (h0 : ∀ h, tabOf (l ++ [((p : Int), (f : Int), (t : Int))]) 0 h = false) (hg : WinsP (wtab (tabOf (l ++ [((p : Int), (f : Int), (t : Int))])) 10)) :
    hoursS (p : Int) l ≤ hoursS (p : Int) (wtab (tabOf (l ++ [((p : Int), (f : Int), (t : Int))])) 10) ∧ hoursS (p : Int) (wtab (tabOf (l ++ [((p : Int), (f : Int), (t : Int))])) 10) ≤ hoursS (p : Int) l + t - f := by
  rw [hours_win hl, hours_win hg, cnt_ext (f := fun k => tabOf (wtab (tabOf (l ++ [((p : Int), (f : Int), (t : Int))])) 10) p k) (g := fun k => tabOf l p k || decide ((f : Int) ≤ (k : Int) ∧ (k : Int) < (t : Int))) (fun k hk => ?_)]
  · have h1 := cnt_mono (f := fun k => tabOf l p k) (g := fun k => tabOf l p k || decide ((f : Int) ≤ (k : Int) ∧ (k : Int) < (t : Int))) (n := 168) (fun k _ h => by show (tabOf l p k || _) = true; rw [show tabOf l p k = true from h]; rfl)
    have h2 := cnt_or_le (f := fun k => tabOf l p k) (g := fun k => decide ((f : Int) ≤ (k : Int) ∧ (k : Int) < (t : Int))) (n := 168)
    have h3 := cnt_range (f : Int) (t : Int) (by omega) (by omega) 168
    rw [if_neg (by omega)] at h3
    by_cases h4 : ((168 : Nat) : Int) ≤ (t : Int)
    · rw [if_pos h4] at h3; omega
    · rw [if_neg h4] at h3; omega
  · show tabOf (wtab _ 10) p k = _
    rw [tab_tab h0 hp hk, tabOf_snoc]
    unfold setT
    by_cases e : f ≤ k ∧ k < t
    · rw [if_pos ⟨rfl, e⟩, show decide ((f : Int) ≤ (k : Int) ∧ (k : Int) < (t : Int)) = true by simp; omega]
      simp
    · rw [if_neg (fun h => e h.2), show decide ((f : Int) ≤ (k : Int) ∧ (k : Int) < (t : Int)) = false by simp; omega]
      simp
open Classical in
noncomputable def hoursV (l : List W3) (p : Int) : Int × Bool := if WinsP l ∧ InR p 1 9 then (hoursS p l, true) else (0, false)
theorem hoursV_no {l : List W3} {p : Int} (h : ¬(WinsP l ∧ InR p 1 9)) : hoursV l p = (0, false) := by unfold hoursV; rw [if_neg h]
theorem hoursV_yes {l : List W3} {p : Int} (h : WinsP l ∧ InR p 1 9) : hoursV l p = (hoursS p l, true) := by unfold hoursV; rw [if_pos h]
theorem hoursS_bd {l : List W3} (h : ∀ x ∈ l, WinP x.1 x.2.1 x.2.2) (p : Int) : 0 ≤ hoursS p l ∧ hoursS p l ≤ 168 * l.length := by
  induction l with
  | nil => simp [hoursS]
  | cons x l ih =>
    have h1 := ih (fun y hy => h y (List.mem_cons_of_mem _ hy))
    have h2 := h x (by simp)
    rw [hoursS, List.length_cons]
    by_cases e : x.1 = p
    · rw [if_pos e]; omega
    · rw [if_neg e]; omega
theorem openF_yes {l : List W3} {h : Int} (hl : WinsP l) (hh : InR h 0 167) : openF l h = ((l.filter (hasH h)).map (·.1), true) := by unfold openF; rw [if_pos ⟨hl, hh⟩]
theorem openF_mem {l : List W3} {h p : Int} (hl : WinsP l) (hh : InR h 0 167) : p ∈ (openF l h).1 ↔ openP l p h := by
  rw [openF_yes hl hh]
  constructor
  · intro hm
    obtain ⟨x, hx, rfl⟩ := List.mem_map.1 hm
    have := List.mem_filter.1 hx
    simp only [hasH, decide_eq_true_eq] at this
    exact ⟨x, this.1, rfl, this.2⟩
  · rintro ⟨x, hx, rfl, h2⟩
    exact List.mem_map.2 ⟨x, List.mem_filter.2 ⟨hx, by simp only [hasH, decide_eq_true_eq]; exact h2⟩, rfl⟩
open Classical in
theorem openF_same {l m : List W3} {h : Int} (hl : WinsP l) (hm : WinsP m) (hh : InR h 0 167) (he : ∀ p : Int, 1 ≤ p → p ≤ 9 → (openP l p h ↔ openP m p h)) : openF l h = openF m h := by
  rw [openF_yes hl hh, openF_yes hm hh, ← open_eq hl h, ← open_eq hm h]
  congr 1
  refine List.filter_congr fun p hp => ?_
  have := mem_upTo.1 hp
  simp only [decide_eq_decide]
  exact he p (by omega) (by omega)
theorem openF_none {l : List W3} {h : Int} (hl : WinsP l) (hh : InR h 0 167) (he : ∀ p : Int, ¬openP l p h) : openF l h = ([], true) := by
  rw [openF_yes hl hh]
  congr 1
  rw [List.map_eq_nil_iff, List.filter_eq_nil_iff]
  intro x hx hc
  simp only [hasH, decide_eq_true_eq] at hc
  exact he x.1 ⟨x, hx, rfl, hc⟩
end Go.Proofs.Ytipndibiioajmaa
