/-
  Sections in balance: the plain laws of shares, moved players, joined and split sections.
-/
import Derived.Test.YtopaekijhkfhpaaSplitS
namespace Go.Proofs.Ytopaekijhkfhpaa
open Go.RowKit

theorem secsP_names {l : List Sec} : SecsP l ↔ (∀ x ∈ l, SecP x) ∧ (l.map (·.1)).Nodup ∧ (1 ≤ l.length ∧ l.length ≤ 10) ∧ ssum l ≤ 60 := by
  have h : (∀ (i j : Nat) (x y : Sec), j < i → l[i]? = some x → l[j]? = some y → x.1 ≠ y.1) ↔ (l.map (·.1)).Nodup := by
    unfold List.Nodup
    rw [List.pairwise_iff_getElem]
    constructor
    · intro h i j hi hj hij
      rw [List.length_map] at hi hj
      rw [List.getElem_map, List.getElem_map]
      exact fun e => h j i _ _ hij (List.getElem?_eq_getElem hj) (List.getElem?_eq_getElem hi) e.symm
    · intro h i j x y hij hx hy
      obtain ⟨hi, rfl⟩ := List.getElem?_eq_some_iff.1 hx
      obtain ⟨hj, rfl⟩ := List.getElem?_eq_some_iff.1 hy
      have := h j i (by simpa using hj) (by simpa using hi) hij
      rw [List.getElem_map, List.getElem_map] at this
      exact fun e => this e.symm
  unfold SecsP
  rw [h]
theorem ssum_set : ∀ {l : List Sec} {k : Nat} {x : Sec} (y : Sec), l[k]? = some x → ssum (l.set k y) = ssum l - x.2.1 + y.2.1
  | [], _, _, _, h => by simp at h
  | a :: l, 0, x, y, h => by
    simp at h; subst h
    rw [List.set_cons_zero, ssum_cons, ssum_cons]; omega
  | a :: l, k + 1, x, y, h => by
    rw [List.set_cons_succ, ssum_cons, ssum_cons, ssum_set y (by simpa using h)]; omega
theorem ssum_erase : ∀ {l : List Sec} {k : Nat} {x : Sec}, l[k]? = some x → ssum (l.eraseIdx k) = ssum l - x.2.1
  | [], _, _, h => by simp at h
  | a :: l, 0, x, h => by
    simp at h; subst h
    rw [List.eraseIdx_cons_zero, ssum_cons]; omega
  | a :: l, k + 1, x, h => by
    rw [List.eraseIdx_cons_succ, ssum_cons, ssum_cons, ssum_erase (by simpa using h)]; omega
theorem ssum_two {l : List Sec} (h : ∀ x ∈ l, 1 ≤ x.2.1 ∧ x.2.1 ≤ 60) {i k : Nat} {x y : Sec} (hik : i ≠ k) (hx : l[i]? = some x) (hy : l[k]? = some y) : x.2.1 + y.2.1 ≤ ssum l := by
  have h1 := ssum_set (x.1, 0, 0) hx
  have hy' : (l.set i (x.1, 0, 0))[k]? = some y := by rw [List.getElem?_set_ne hik]; exact hy
  have h2 := ssum_erase hy'
  have h3 : 0 ≤ ssum ((l.set i (x.1, 0, 0)).eraseIdx k) := by
    have hn : ∀ z ∈ (l.set i (x.1, 0, 0)).eraseIdx k, 0 ≤ z.2.1 := by
      intro z hz
      rcases List.mem_or_eq_of_mem_set (List.mem_of_mem_eraseIdx hz) with h4 | h4
      · have := h z h4; omega
      · rw [h4]; exact Int.le_refl _
    revert hn
    generalize (l.set i (x.1, 0, 0)).eraseIdx k = m
    intro hn
    induction m with
    | nil => exact Int.le_refl _
    | cons a m ih =>
      rw [ssum_cons]
      have := hn a (List.mem_cons_self ..)
      have := ih (fun z hz => hn z (List.mem_cons_of_mem _ hz))
      omega
  dsimp only at h1
  omega
theorem names_set {l : List Sec} {k : Nat} {x y : Sec} (hx : l[k]? = some x) (hy : y.1 = x.1) : (l.set k y).map (·.1) = l.map (·.1) := by
  rw [List.map_set]
  apply List.ext_getElem?
  intro i
  by_cases hi : k = i
  · subst hi
    have hk := (List.getElem?_eq_some_iff.1 hx).1
    rw [List.getElem?_set_self (by simpa using hk), List.getElem?_map, hx, hy]; rfl
  · rw [List.getElem?_set_ne hi]

/-! ### Moved players -/
theorem mvp_secs {l : List Sec} {f t : Int} (h : MvpP l f t) : SecsP (mvp l f.toNat t.toNat) ∧ mvpF (mvp l f.toNat t.toNat) t f = (l, true) := by
  obtain ⟨hf, ht, hft, hn1⟩ := h
  obtain ⟨F, rfl⟩ := Int.eq_ofNat_of_zero_le hf.2.1
  obtain ⟨T, rfl⟩ := Int.eq_ofNat_of_zero_le ht.2.1
  have hS := hf.1
  have hFT : F ≠ T := by omega
  have hFl : F < l.length := by have := hf.2.2; omega
  have hTl : T < l.length := by have := ht.2.2; omega
  obtain ⟨x, hx⟩ := get_of_lt hFl
  obtain ⟨y, hy⟩ := get_of_lt hTl
  have hx1 := hS.1 x (mem_of_get hx)
  have hy1 := hS.1 y (mem_of_get hy)
  have hxn : x.2.1 ≠ 1 := hn1 x hx
  have h2 := ssum_two hS.size hFT hx hy
  have hsum := hS.2.2.2
  rw [Int.toNat_natCast, Int.toNat_natCast, mvp_at hx hy]
  have hy' : (l.set F (x.1, x.2.1 - 1, x.2.2))[T]? = some y := by rw [List.getElem?_set_ne hFT]; exact hy
  have hP : SecsP ((l.set F (x.1, x.2.1 - 1, x.2.2)).set T (y.1, y.2.1 + 1, y.2.2)) := by
    rw [secsP_names]
    refine ⟨?_, ?_, ?_, ?_⟩
    · intro z hz
      rcases List.mem_or_eq_of_mem_set hz with hz | rfl
      · rcases List.mem_or_eq_of_mem_set hz with hz | rfl
        · exact hS.1 z hz
        · exact ⟨hx1.1, by dsimp only; omega, hx1.2.2⟩
      · exact ⟨hy1.1, by dsimp only; omega, hy1.2.2⟩
    · rw [names_set (y := (y.1, y.2.1 + 1, y.2.2)) hy' rfl, names_set (y := (x.1, x.2.1 - 1, x.2.2)) hx rfl]; exact (secsP_names.1 hS).2.1
    · rw [List.length_set, List.length_set]; exact hS.2.2.1
    · rw [ssum_set _ hy', ssum_set _ hx]; dsimp only; omega
  refine ⟨hP, ?_⟩
  have gT : ((l.set F (x.1, x.2.1 - 1, x.2.2)).set T (y.1, y.2.1 + 1, y.2.2))[T]? = some (y.1, y.2.1 + 1, y.2.2) := by
    rw [List.getElem?_set_self (by rw [List.length_set]; exact hTl)]
  have gF : ((l.set F (x.1, x.2.1 - 1, x.2.2)).set T (y.1, y.2.1 + 1, y.2.2))[F]? = some (x.1, x.2.1 - 1, x.2.2) := by
    rw [List.getElem?_set_ne (Ne.symm hFT), List.getElem?_set_self hFl]
  rw [mvpF_good ⟨⟨hP, by omega, by rw [List.length_set, List.length_set]; omega⟩, ⟨hP, by omega, by rw [List.length_set, List.length_set]; omega⟩, by omega, fun z hz => by
    rw [Int.toNat_natCast, gT] at hz
    cases hz
    dsimp only
    omega⟩ gT gF]
  congr 1
  apply List.ext_getElem?
  intro i
  by_cases h1 : F = i
  · subst h1
    rw [List.getElem?_set_self (by simp only [List.length_set]; exact hFl), hx]
    simp
  · rw [List.getElem?_set_ne h1]
    by_cases h3 : T = i
    · subst h3
      rw [List.getElem?_set_self (by simp only [List.length_set]; exact hTl), hy]
      simp
    · rw [List.getElem?_set_ne h3, List.getElem?_set_ne h3, List.getElem?_set_ne h1]

/-! ### Joined sections -/
theorem mix_secs {x y : Sec} (hx : SecP x) (hy : SecP y) (h : x.2.1 + y.2.1 ≤ 60) : SecP (mixS x y) := by
  obtain ⟨a1, ⟨a2, a3⟩, a4, a5⟩ := hx
  obtain ⟨b1, ⟨b2, b3⟩, b4, b5⟩ := hy
  refine ⟨a1, by unfold mixS; dsimp only; omega, ?_⟩
  have h1 : 0 ≤ x.2.1 * x.2.2 := Int.mul_nonneg (by omega) a4
  have h2 : 0 ≤ y.2.1 * y.2.2 := Int.mul_nonneg (by omega) b4
  have h3 : x.2.1 * x.2.2 ≤ x.2.1 * 100 := Int.mul_le_mul_of_nonneg_left a5 (by omega)
  have h4 : y.2.1 * y.2.2 ≤ y.2.1 * 100 := Int.mul_le_mul_of_nonneg_left b5 (by omega)
  unfold mixS
  dsimp only
  refine ⟨Int.ediv_nonneg (by omega) (by omega), ?_⟩
  exact Int.ediv_le_of_le_mul (by omega) (by omega)
theorem join_secs {l : List Sec} {i k : Int} (h : JoinP l i k) : SecsP (joinS l i.toNat k.toNat) ∧ (joinS l i.toNat k.toNat).length + 1 = l.length := by
  obtain ⟨hf, ht, hft⟩ := h
  obtain ⟨F, rfl⟩ := Int.eq_ofNat_of_zero_le hf.2.1
  obtain ⟨T, rfl⟩ := Int.eq_ofNat_of_zero_le ht.2.1
  have hS := hf.1
  have hFT : F ≠ T := by omega
  have hFl : F < l.length := by have := hf.2.2; omega
  have hTl : T < l.length := by have := ht.2.2; omega
  obtain ⟨x, hx⟩ := get_of_lt hFl
  obtain ⟨y, hy⟩ := get_of_lt hTl
  have hx1 := hS.1 x (mem_of_get hx)
  have hy1 := hS.1 y (mem_of_get hy)
  have h2 := ssum_two hS.size hFT hx hy
  have hsum := hS.2.2.2
  have hlen := hS.2.2.1
  have he : joinS l F T = (l.set F (mixS x y)).eraseIdx T := by unfold joinS; rw [hx, hy]
  rw [Int.toNat_natCast, Int.toNat_natCast, he]
  have hy' : (l.set F (mixS x y))[T]? = some y := by rw [List.getElem?_set_ne hFT]; exact hy
  have hL : ((l.set F (mixS x y)).eraseIdx T).length + 1 = l.length := by
    rw [List.length_eraseIdx_of_lt (by rw [List.length_set]; exact hTl), List.length_set]
    omega
  refine ⟨?_, hL⟩
  rw [secsP_names]
  refine ⟨?_, ?_, by omega, ?_⟩
  · intro z hz
    rcases List.mem_or_eq_of_mem_set (List.mem_of_mem_eraseIdx hz) with hz | rfl
    · exact hS.1 z hz
    · exact mix_secs hx1 hy1 (by omega)
  · have h5 := (secsP_names.1 hS).2.1
    rw [← names_set (y := mixS x y) hx rfl] at h5
    exact h5.sublist ((List.eraseIdx_sublist _ _).map _)
  · rw [ssum_erase hy', ssum_set _ hx]
    unfold mixS
    dsimp only
    omega

/-! ### Split sections -/
theorem split_back {l : List Sec} {i n : Int} {s : ByteArray} (h : SplP l i n) (h2 : SecsP (splL l i.toNat n s)) : joinF (splL l i.toNat n s) i (i + 1) = (l, true) := by
  obtain ⟨hf, hn⟩ := h
  obtain ⟨F, rfl⟩ := Int.eq_ofNat_of_zero_le hf.2.1
  have hS := hf.1
  have hFl : F < l.length := by have := hf.2.2; omega
  obtain ⟨x, hx⟩ := get_of_lt hFl
  have hx1 := hS.1 x (mem_of_get hx)
  obtain ⟨hn1, hn2⟩ := hn x (by rw [Int.toNat_natCast]; exact hx)
  rw [Int.toNat_natCast] at h2 ⊢
  have hlen := splL_len (n := n) (s := s) hx
  have gF : (splL l F n s)[F]? = some (x.1, n, x.2.2) := by
    rw [splL_set hx, List.getElem?_set_self (by simp; omega)]
  have hL : (l.take (F + 1)).length = F + 1 := by rw [List.length_take]; omega
  have gT : (splL l F n s)[F + 1]? = some (s, x.2.1 - n, x.2.2) := by
    rw [splL_set hx, List.getElem?_set_ne (by omega), List.append_assoc, List.getElem?_append_right (by omega), hL]
    simp
  have hJ : JoinP (splL l F n s) (F : Int) ((F : Int) + 1) := ⟨⟨h2, by omega, by omega⟩, ⟨h2, by omega, by omega⟩, by omega⟩
  unfold joinF
  rw [if_pos hJ]
  congr 1
  rw [Int.toNat_natCast, show ((F : Int) + 1).toNat = F + 1 by omega]
  unfold joinS
  rw [gF, gT]
  dsimp only
  have hm : mixS (x.1, n, x.2.2) (s, x.2.1 - n, x.2.2) = x := by
    unfold mixS
    dsimp only
    rw [show n + (x.2.1 - n) = x.2.1 by omega, ← Int.add_mul, show n + (x.2.1 - n) = x.2.1 by omega, Int.mul_ediv_cancel_left _ (show x.2.1 ≠ 0 by omega)]
  rw [hm, splL_set hx, List.set_set]
  have hs : (l.take (F + 1) ++ [(s, x.2.1 - n, x.2.2)] ++ l.drop (F + 1)).set F x = l.take (F + 1) ++ ((s, x.2.1 - n, x.2.2) :: l.drop (F + 1)) := by
    rw [List.append_assoc]
    show (l.take (F + 1) ++ ((s, x.2.1 - n, x.2.2) :: l.drop (F + 1))).set F x = _
    rw [List.set_append_left _ _ (by omega)]
    congr 1
    apply List.ext_getElem?
    intro j
    by_cases hj : F = j
    · subst hj
      rw [List.getElem?_set_self (by omega), List.getElem?_take_of_lt (by omega), hx]
    · rw [List.getElem?_set_ne hj]
  rw [hs, List.eraseIdx_append_of_length_le (by omega), hL, Nat.sub_self, List.eraseIdx_cons_zero, List.take_append_drop]

/-! ### Shares -/
theorem loudSum_bd {l : List Sec} (h : ∀ x ∈ l, SecP x) : 0 ≤ loudSum l ∧ loudSum l ≤ 6000 * l.length := by
  induction l with
  | nil => simp [loudSum]
  | cons x l ih =>
    have h1 := loud_bd (h x (List.mem_cons_self ..))
    have h2 := ih (fun y hy => h y (List.mem_cons_of_mem _ hy))
    have h3 : loudSum (x :: l) = loud x + loudSum l := by simp [loudSum]
    rw [h3, List.length_cons]
    omega
theorem low_facts {a b : Int} (ha : 0 ≤ a ∧ a ≤ 60000) (hb : 1 ≤ b ∧ b ≤ 60000) : (0 ≤ (low a b).1 ∧ (low a b).1 ≤ 60000) ∧ (1 ≤ (low a b).2 ∧ (low a b).2 ≤ 60000) ∧ (low a b).1 * b = a * (low a b).2 := by
  have hg := gcd_pos_of a b (by omega)
  have d1 : (Int.gcd a b : Int) ∣ a := Int.gcd_dvd_left ..
  have d2 : (Int.gcd a b : Int) ∣ b := Int.gcd_dvd_right ..
  unfold low
  dsimp only
  generalize (Int.gcd a b : Int) = g at *
  obtain ⟨p, rfl⟩ := d1
  obtain ⟨q, rfl⟩ := d2
  rw [Int.mul_ediv_cancel_left _ (by omega), Int.mul_ediv_cancel_left _ (by omega)]
  have hp : 0 ≤ p := by
    by_cases h : 0 ≤ p
    · exact h
    · exfalso
      have := Int.mul_le_mul_of_nonneg_left (show p ≤ -1 by omega) (Int.le_of_lt hg)
      omega
  have hq : 1 ≤ q := by
    by_cases h : 1 ≤ q
    · exact h
    · exfalso
      have := Int.mul_le_mul_of_nonneg_left (show q ≤ 0 by omega) (Int.le_of_lt hg)
      omega
  have h1 := Int.mul_le_mul_of_nonneg_right (show 1 ≤ g by omega) hp
  have h2 := Int.mul_le_mul_of_nonneg_right (show 1 ≤ g by omega) (show 0 ≤ q by omega)
  refine ⟨⟨hp, by omega⟩, ⟨hq, by omega⟩, ?_⟩
  rw [Int.mul_left_comm, Int.mul_assoc]
theorem share_facts {l : List Sec} {i a b : Int} (h : shareF l i = (a, b, true)) : SecsP l ∧ ∃ (k : Nat) (x : Sec), i = k ∧ l[k]? = some x ∧ (0 ≤ a ∧ a ≤ 60000) ∧ (1 ≤ b ∧ b ≤ 60000) ∧ a * loudSum l = loud x * b := by
  by_cases hc : HasP l i ∧ loudSum l ≠ 0
  · obtain ⟨hP, h0⟩ := hc
    obtain ⟨F, rfl⟩ := Int.eq_ofNat_of_zero_le hP.2.1
    have hFl : F < l.length := by have := hP.2.2; omega
    obtain ⟨x, hx⟩ := get_of_lt hFl
    rw [shareF_good hP h0 (by rw [Int.toNat_natCast]; exact hx)] at h
    have h1 := loud_bd (hP.1.1 x (mem_of_get hx))
    have h2 := loudSum_bd hP.1.1
    have h3 := hP.1.2.2.1
    have hlo : loud x ≤ 60000 := by omega
    obtain ⟨f1, f2, f3⟩ := low_facts (a := loud x) (b := loudSum l) ⟨h1.1, hlo⟩ ⟨by omega, by omega⟩
    change ((low (loud x) (loudSum l)).1, (low (loud x) (loudSum l)).2, true) = (a, b, true) at h
    simp only [Prod.mk.injEq, and_true] at h
    obtain ⟨rfl, rfl⟩ := h
    exact ⟨hP.1, F, x, rfl, hx, f1, f2, f3⟩
  · rw [shareF_bad hc] at h
    simp at h
open Classical in
theorem bst_best {l : List Sec} : ∀ {k : Nat}, k ≤ l.length → 0 < l.length → (bst l k < l.length ∧ ∀ (j : Nat) (x y : Sec), j < k → l[j]? = some x → l[bst l k]? = some y → loud x ≤ loud y)
  | 0, _, h0 => ⟨h0, fun j x y hj => absurd hj (by omega)⟩
  | k + 1, hk, h0 => by
    obtain ⟨h1, h2⟩ := bst_best (l := l) (k := k) (by omega) h0
    obtain ⟨z, hz⟩ := get_of_lt h1
    obtain ⟨u, hu⟩ := get_of_lt (show k < l.length by omega)
    show (if louder l k (bst l k) then k else bst l k) < _ ∧ _
    by_cases hL : louder l k (bst l k)
    · have he : bst l (k + 1) = k := by show (if louder l k (bst l k) then k else bst l k) = k; rw [if_pos hL]
      rw [if_pos hL, he]
      refine ⟨by omega, fun j x y hj hx hy => ?_⟩
      rw [hu] at hy; cases hy
      by_cases hjk : j = k
      · subst hjk; rw [hu] at hx; cases hx; exact Int.le_refl _
      · have h3 := h2 j x z (by omega) hx hz
        have h4 := hL u z hu hz
        omega
    · have he : bst l (k + 1) = bst l k := by show (if louder l k (bst l k) then k else bst l k) = _; rw [if_neg hL]
      rw [if_neg hL, he]
      refine ⟨h1, fun j x y hj hx hy => ?_⟩
      by_cases hjk : j = k
      · subst hjk
        rw [hu] at hx; cases hx
        rw [hz] at hy; cases hy
        by_cases h5 : loud u ≤ loud z
        · exact h5
        · exact absurd (fun a b ha hb => by rw [hu] at ha; rw [hz] at hb; cases ha; cases hb; omega) hL
      · exact h2 j x y (by omega) hx hy
theorem loudest_facts {l : List Sec} (h : SecsP l) : ∃ (k : Nat) (y : Sec), loudestF l = ((k : Int), true) ∧ l[k]? = some y ∧ ∀ x ∈ l, loud x ≤ loud y := by
  obtain ⟨h1, h2⟩ := bst_best (l := l) (k := l.length) (Nat.le_refl _) (by have := h.2.2.1; omega)
  obtain ⟨y, hy⟩ := get_of_lt h1
  refine ⟨_, y, loudestF_good h, hy, fun x hx => ?_⟩
  obtain ⟨j, hj⟩ := List.getElem?_of_mem hx
  exact h2 j x y (List.getElem?_eq_some_iff.1 hj).1 hj hy
end Go.Proofs.Ytopaekijhkfhpaa
