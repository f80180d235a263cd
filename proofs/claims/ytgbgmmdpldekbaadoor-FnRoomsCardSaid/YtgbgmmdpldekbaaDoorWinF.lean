/-
  What the drawn law of windows leans on: plain.
-/
import Derived.Test.YtgbgmmdpldekbaaDoorWinP
namespace Go.Proofs.YtgbgmmdpldekbaaDoor

theorem winF_yes {T : Nat → Nat → Bool} {al : List W3} (h : winF T = (al, true)) : (wtab T 10).length ≤ 20 ∧ al = wtab T 10 := by
  by_cases hl : (wtab T 10).length ≤ 20
  · rw [winF_lt hl] at h
    exact ⟨hl, (Prod.mk.inj h).1.symm⟩
  · rw [winF_ge hl] at h
    cases h
theorem add_facts {l : List W3} {a b c : Int} {al : List W3} (h : addF l a b c = (al, true)) :
    WinsP l ∧ WinP a b c ∧ WinsP al ∧ (∀ h : Int, b ≤ h → h < c → openP al a h) ∧ hoursS a l ≤ hoursS a al ∧ hoursS a al ≤ hoursS a l + c - b := by
  by_cases hc : WinsP l ∧ WinP a b c
  · obtain ⟨hl, hx⟩ := hc
    rw [addF_ok ⟨hl, hx⟩] at h
    obtain ⟨h20, rfl⟩ := winF_yes h
    obtain ⟨p, f, t, he, h1, h2, h3, h4⟩ := winP_nat (x := (a, b, c)) hx
    obtain ⟨rfl, rfl, rfl⟩ : a = (p : Int) ∧ b = (f : Int) ∧ c = (t : Int) := by simpa using he
    have h0 : ∀ h, tabOf (l ++ [((p : Int), (f : Int), (t : Int))]) 0 h = false := fun h => by
      rw [tabOf_snoc]
      unfold setT
      rw [if_neg (by omega)]
      exact tabOf_zero hl h
    have hg := (wtab_good h0).2 h20
    have hh := add_hours hl h3 h4 h2 h0 hg
    refine ⟨hl, hx, hg, fun k hk1 hk2 => ?_, hh.1, hh.2⟩
    obtain ⟨k, rfl⟩ := Int.eq_ofNat_of_zero_le (show 0 ≤ k by omega)
    refine tabOf_open.1 ?_
    rw [tab_tab h0 h2 (by omega), tabOf_snoc]
    unfold setT
    rw [if_pos (by omega)]
  · rw [addF_bad hc] at h
    cases h
theorem close_facts {l : List W3} {f t : Int} {cl : List W3} (h : closeF l f t = (cl, true)) :
    WinsP l ∧ (0 ≤ f ∧ f < t ∧ t ≤ 168) ∧ WinsP cl ∧ (∀ h : Int, f ≤ h → h < t → openF cl h = ([], true)) ∧ (∀ h : Int, 0 ≤ h → h < 168 → (h < f ∨ t ≤ h) → openF cl h = openF l h) := by
  by_cases hc : WinsP l ∧ 0 ≤ f ∧ f < t ∧ t ≤ 168
  · rw [closeF_ok hc] at h
    obtain ⟨hl, hft⟩ := hc
    obtain ⟨h20, rfl⟩ := winF_yes h
    have h0 : ∀ h, closeT (tabOf l) f t 0 h = false := fun h => by
      unfold closeT
      rw [tabOf_zero hl]
      rfl
    have hg := (wtab_good h0).2 h20
    have key : ∀ (p k : Nat), p < 10 → k < 168 → (openP (wtab (closeT (tabOf l) f t) 10) (p : Int) (k : Int) ↔ openP l (p : Int) (k : Int) ∧ ¬(f ≤ (k : Int) ∧ (k : Int) < t)) := by
      intro p k hp hk
      rw [← tabOf_open, tab_tab h0 hp hk, ← tabOf_open]
      unfold closeT
      simp
      intro _
      omega
    have hin : ∀ p k : Int, openP (wtab (closeT (tabOf l) f t) 10) p k → ∃ P K : Nat, p = P ∧ k = K ∧ P < 10 ∧ K < 168 := by
      rintro p k ⟨x, hx, h1, h2, h3⟩
      have := hg.1 x hx
      obtain ⟨P, rfl⟩ := Int.eq_ofNat_of_zero_le (show 0 ≤ p by omega)
      obtain ⟨K, rfl⟩ := Int.eq_ofNat_of_zero_le (show 0 ≤ k by omega)
      exact ⟨P, K, rfl, rfl, by omega, by omega⟩
    refine ⟨hl, hft, hg, fun k hk1 hk2 => openF_none hg (by omega) fun p hp => ?_, fun k hk0 hk hk2 => openF_same hg hl (by omega) fun p hp1 hp2 => ?_⟩
    · obtain ⟨P, K, rfl, rfl, h1, h2⟩ := hin p k hp
      exact ((key P K h1 h2).1 hp).2 ⟨hk1, hk2⟩
    · obtain ⟨P, rfl⟩ := Int.eq_ofNat_of_zero_le (show 0 ≤ p by omega)
      obtain ⟨K, rfl⟩ := Int.eq_ofNat_of_zero_le hk0
      rw [key P K (by omega) (by omega)]
      constructor
      · exact fun h => h.1
      · exact fun h => ⟨h, by omega⟩
  · rw [closeF_bad hc] at h
    cases h
theorem hours_facts {l : List W3} {p n : Int} (h : hoursV l p = (n, true)) : WinsP l ∧ ∃ P : Nat, p = (P : Int) ∧ 1 ≤ P ∧ P < 10 ∧ n = (cnt (fun k => tabOf l P k) 168 : Int) := by
  by_cases hc : WinsP l ∧ InR p 1 9
  · rw [hoursV_yes hc] at h
    obtain ⟨P, rfl⟩ := Int.eq_ofNat_of_zero_le (show 0 ≤ p by have := hc.2; omega)
    refine ⟨hc.1, P, rfl, by have := hc.2; omega, by have := hc.2; omega, ?_⟩
    rw [← (Prod.mk.inj h).1, hours_win hc.1]
  · rw [hoursV_no hc] at h
    cases h
theorem cnt_bd (f : Nat → Bool) : ∀ n, cnt f n ≤ n
  | 0 => Nat.le_refl _
  | n + 1 => by
    show cnt f n + _ ≤ n + 1
    have := cnt_bd f n
    split <;> omega
theorem open_ok {l : List W3} {h : Int} (hl : WinsP l) (hh : InR h 0 167) : ∃ o : List Int, openF l h = (o, true) ∧ (∀ p, p ∈ o ↔ openP l p h) := by
  refine ⟨(openF l h).1, ?_, fun p => openF_mem hl hh⟩
  rw [openF_yes hl hh]
end Go.Proofs.YtgbgmmdpldekbaaDoor
