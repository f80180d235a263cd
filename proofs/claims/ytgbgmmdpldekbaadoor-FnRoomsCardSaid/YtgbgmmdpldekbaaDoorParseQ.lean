/-
  Texts of windows read: plain.
-/
import Derived.Test.YtgbgmmdpldekbaaDoorPieces
import Derived.Test.YtgbgmmdpldekbaaDoorTextW
namespace Go.Proofs.YtgbgmmdpldekbaaDoor

abbrev W3p := Int × Int × Int
noncomputable def winR (line : ByteArray) : W3p := (rdF (word line 0), rdF (word line 1), rdF (word line 2))
noncomputable def winN (line : ByteArray) : W3p := ((natF (word line 0)).1, (natF (word line 1)).1, (natF (word line 2)).1)
/-- Every word of a line is a number. -/
def OkL (x : ByteArray) : Prop := L3 x ∧ ∀ p ∈ pieces 32 x.data.toList, (natF p).2 = true
theorem line_text {x : ByteArray} (h : L3 x) (h0 : 0 ≤ (winR x).1) (h1 : 0 ≤ (winR x).2.1) (h2 : 0 ≤ (winR x).2.2) : lineW (winR x) = toB (x.data.toList ++ [10]) := by
  unfold winR at h0 h1 h2 ⊢
  dsimp only at h0 h1 h2
  unfold lineW
  dsimp only
  rw [rdF_yes (rdF_ge h0), rdF_yes (rdF_ge h1), rdF_yes (rdF_ge h2), numS_valF (rdF_ge h0).1, numS_valF (rdF_ge h1).1, numS_valF (rdF_ge h2).1, h.join]
  apply ByteArray.ext
  simp [toB, ByteArray.data_append]
theorem cat_text {ls : List ByteArray} (h : ∀ x ∈ ls, L3 x ∧ 0 ≤ (winR x).1 ∧ 0 ≤ (winR x).2.1 ∧ 0 ≤ (winR x).2.2) : cat lineW (ls.map winR) = toB (ls.map (·.data.toList ++ [10])).flatten := by
  have key : ∀ (ls : List ByteArray) (a : List UInt8), (∀ x ∈ ls, L3 x ∧ 0 ≤ (winR x).1 ∧ 0 ≤ (winR x).2.1 ∧ 0 ≤ (winR x).2.2) → (ls.map winR).foldl (fun a x => a ++ lineW x) (toB a) = toB (a ++ (ls.map (·.data.toList ++ [10])).flatten) := by
    intro ls
    induction ls with
    | nil => intro a _; simp
    | cons x ls ih =>
      intro a hx
      have h1 := hx x (by simp)
      rw [List.map_cons, List.foldl_cons, line_text h1.1 h1.2.1 h1.2.2.1 h1.2.2.2]
      rw [show toB a ++ toB (x.data.toList ++ [10]) = toB (a ++ (x.data.toList ++ [10])) from ByteArray.mk_append_mk _ _, ih _ (fun y hy => hx y (by simp [hy]))]
      simp
  have := key ls [] h
  rw [List.nil_append] at this
  exact this
open Classical in
noncomputable def prsF (s : ByteArray) : List W3p × Bool :=
  if (pcs 10 s).length ≤ 21 ∧ (∀ x ∈ (pcs 10 s).dropLast, L3 x) ∧ WinsP ((pcs 10 s).dropLast.map winR) ∧ cat lineW ((pcs 10 s).dropLast.map winR) = s then ((pcs 10 s).dropLast.map winR, true) else ([], false)
theorem prsF_yes {s : ByteArray} (h : (pcs 10 s).length ≤ 21 ∧ (∀ x ∈ (pcs 10 s).dropLast, L3 x) ∧ WinsP ((pcs 10 s).dropLast.map winR) ∧ cat lineW ((pcs 10 s).dropLast.map winR) = s) : prsF s = ((pcs 10 s).dropLast.map winR, true) := by unfold prsF; rw [if_pos h]
theorem prsF_no {s : ByteArray} (h : ¬((pcs 10 s).length ≤ 21 ∧ (∀ x ∈ (pcs 10 s).dropLast, L3 x) ∧ WinsP ((pcs 10 s).dropLast.map winR) ∧ cat lineW ((pcs 10 s).dropLast.map winR) = s)) : prsF s = ([], false) := by unfold prsF; rw [if_neg h]
theorem prsF_len (s : ByteArray) : (prsF s).1.length ≤ 1048576 := by
  unfold prsF
  split
  · rename_i h
    dsimp only
    rw [List.length_map, List.length_dropLast]
    omega
  · simp

theorem win_bad {x : ByteArray} (h3 : L3 x) (h : ¬OkL x) : ¬WinP (winR x).1 (winR x).2.1 (winR x).2.2 := by
  intro hw
  refine h ⟨h3, fun p hp => ?_⟩
  unfold winR at hw
  dsimp only at hw
  rw [h3.words] at hp
  have key : ∀ q : List UInt8, 0 ≤ rdF q → (natF q).2 = true := fun q hq => by rw [rd_nat hq]
  simp only [List.mem_cons, List.mem_nil_iff, or_false] at hp
  rcases hp with rfl | rfl | rfl
  · exact key _ (by omega)
  · exact key _ (by omega)
  · exact key _ (by omega)
theorem win_same {x : ByteArray} (h : OkL x) (hs : (WinP (winN x).1 (winN x).2.1 (winN x).2.2) ∨ WinP (winR x).1 (winR x).2.1 (winR x).2.2) : winR x = winN x := by
  have hm : ∀ k, k < 3 → (natF (word x k)).2 = true := by
    intro k hk
    have := h.2
    rw [h.1.words] at this
    rcases k with _ | _ | _ | k
    · exact this _ (by simp)
    · exact this _ (by simp)
    · exact this _ (by simp)
    · omega
  rcases hs with hs | hs
  · unfold winN at hs
    dsimp only at hs
    unfold winR winN
    rw [nat_rd (hm 0 (by omega)) (by omega), nat_rd (hm 1 (by omega)) (by omega), nat_rd (hm 2 (by omega)) (by omega)]
  · unfold winR at hs
    dsimp only at hs
    unfold winR winN
    rw [rd_nat (l := word x 0) (by omega), rd_nat (l := word x 1) (by omega), rd_nat (l := word x 2) (by omega)]
theorem map_same {ls : List ByteArray} (hok : ∀ x ∈ ls, OkL x) (h : WinsP (ls.map winN) ∨ WinsP (ls.map winR)) : ls.map winR = ls.map winN := by
  refine List.map_congr_left fun x hx => win_same (hok x hx) ?_
  rcases h with h | h
  · exact .inl (h.1 _ (List.mem_map_of_mem hx))
  · exact .inr (h.1 _ (List.mem_map_of_mem hx))
/-- What the program computes. -/
theorem prog_yes {s : ByteArray} {ls : List ByteArray} (hl : linesF s = (ls, true)) (h20 : ls.length ≤ 20) (hok : ∀ x ∈ ls, OkL x) (hw : WinsP (ls.map winN)) : prsF s = (ls.map winN, true) := by
  have hp := lines_yes (s := s) (by rw [hl])
  rw [hl] at hp
  dsimp only at hp
  have hs := map_same hok (.inl hw)
  have hd := dropLast_of hp
  rw [prsF_yes, hd, hs]
  rw [hd, hs]
  refine ⟨by rw [hp]; simp; omega, fun x hx => (hok x hx).1, hw, ?_⟩
  rw [← hs, cat_text (fun x hx => ?_)]
  · have hj := pcs_join hp
    rw [toB_data, List.append_nil] at hj
    rw [← hj]
    rfl
  · have h1 := hw.1 _ (List.mem_map_of_mem hx)
    rw [← win_same (hok x hx) (.inl h1)] at h1
    exact ⟨(hok x hx).1, by omega, by omega, by omega⟩
theorem prog_cond {s : ByteArray} (h : (pcs 10 s).length ≤ 21 ∧ (∀ x ∈ (pcs 10 s).dropLast, L3 x) ∧ WinsP ((pcs 10 s).dropLast.map winR) ∧ cat lineW ((pcs 10 s).dropLast.map winR) = s) :
    (linesF s).2 = true ∧ (linesF s).1.length ≤ 20 ∧ (∀ x ∈ (linesF s).1, OkL x) ∧ WinsP ((linesF s).1.map winN) := by
  obtain ⟨h1, h2, h3, h4⟩ := h
  have hw : ∀ x ∈ (pcs 10 s).dropLast, WinP (winR x).1 (winR x).2.1 (winR x).2.2 := fun x hx => h3.1 _ (List.mem_map_of_mem hx)
  have hcut : pcs 10 s = (pcs 10 s).dropLast ++ [(pcs 10 s).getLast (pcs_ne 10 s)] := (List.dropLast_concat_getLast (pcs_ne 10 s)).symm
  have hj := pcs_join hcut
  have hct := cat_text (ls := (pcs 10 s).dropLast) (fun x hx => ⟨h2 x hx, by have := hw x hx; omega, by have := hw x hx; omega, by have := hw x hx; omega⟩)
  rw [h4] at hct
  have hz : ((pcs 10 s).getLast (pcs_ne 10 s)).data.toList = [] := by
    have := congrArg (fun x : ByteArray => x.data.toList) hct
    rw [toB_data, hj] at this
    simpa using this
  have hz2 : (pcs 10 s).getLast (pcs_ne 10 s) = toB [] := by rw [← toB_self ((pcs 10 s).getLast (pcs_ne 10 s)), hz]
  rw [hz2] at hcut
  have ht : (linesF s).2 = true := by
    cases hb : (linesF s).2 with
    | true => rfl
    | false => exact absurd hcut (lines_no hb _)
  have hp := lines_yes ht
  have hd := dropLast_of hp
  rw [hd] at h2 h3 hw
  have hok : ∀ x ∈ (linesF s).1, OkL x := fun x hx => Classical.byContradiction fun hn => win_bad (h2 x hx) hn (hw x hx)
  refine ⟨ht, ?_, hok, ?_⟩
  · rw [hp] at h1
    simp at h1
    omega
  · rw [← map_same hok (.inr h3)]
    exact h3
theorem prog_no {s : ByteArray} (h : ¬((linesF s).2 = true ∧ (linesF s).1.length ≤ 20 ∧ (∀ x ∈ (linesF s).1, OkL x) ∧ WinsP ((linesF s).1.map winN))) : prsF s = ([], false) :=
  prsF_no fun hc => h (prog_cond hc)
theorem nums_ok {x : ByteArray} (h : OkL x) : numsF 3 x = ([(winN x).1, (winN x).2.1, (winN x).2.2], true) := by
  rw [numsF_yes h, h.1.words]
  rfl
theorem nums_bad {x : ByteArray} (h : ¬OkL x) : numsF 3 x = ([], false) := numsF_no h
end Go.Proofs.YtgbgmmdpldekbaaDoor
