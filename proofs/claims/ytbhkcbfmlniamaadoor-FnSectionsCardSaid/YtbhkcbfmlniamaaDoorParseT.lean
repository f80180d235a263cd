/-
  Texts of sections read: plain.
-/
import Derived.Test.YtbhkcbfmlniamaaDoorPieces
import Derived.Test.YtbhkcbfmlniamaaDoorTextC
namespace Go.Proofs.YtbhkcbfmlniamaaDoor

noncomputable def secR (x : ByteArray) : Sec := (toB (word x 0), rdF (word x 1), rdF (word x 2))
noncomputable def secN (x : ByteArray) : Sec := (toB (word x 0), (natF (word x 1)).1, (natF (word x 2)).1)
/-- The numbers of a line are numbers. -/
def OkS (x : ByteArray) : Prop := L3 x ∧ (natF (word x 1)).2 = true ∧ (natF (word x 2)).2 = true
theorem secline_text {x : ByteArray} (h : L3 x) (h1 : 0 ≤ (secR x).2.1) (h2 : 0 ≤ (secR x).2.2) : lineC (secR x) = toB (x.data.toList ++ [10]) := by
  unfold secR at h1 h2 ⊢
  dsimp only at h1 h2
  unfold lineC
  dsimp only
  rw [rdF_yes (rdF_ge h1), rdF_yes (rdF_ge h2), numS_valF (rdF_ge h1).1, numS_valF (rdF_ge h2).1, h.join]
  apply ByteArray.ext
  simp [toB, ByteArray.data_append]
theorem seccat_text {ls : List ByteArray} (h : ∀ x ∈ ls, L3 x ∧ 0 ≤ (secR x).2.1 ∧ 0 ≤ (secR x).2.2) : cat lineC (ls.map secR) = toB (ls.map (·.data.toList ++ [10])).flatten := by
  have key : ∀ (ls : List ByteArray) (a : List UInt8), (∀ x ∈ ls, L3 x ∧ 0 ≤ (secR x).2.1 ∧ 0 ≤ (secR x).2.2) → (ls.map secR).foldl (fun a x => a ++ lineC x) (toB a) = toB (a ++ (ls.map (·.data.toList ++ [10])).flatten) := by
    intro ls
    induction ls with
    | nil => intro a _; simp
    | cons x ls ih =>
      intro a hx
      have h1 := hx x (by simp)
      rw [List.map_cons, List.foldl_cons, secline_text h1.1 h1.2.1 h1.2.2]
      rw [show toB a ++ toB (x.data.toList ++ [10]) = toB (a ++ (x.data.toList ++ [10])) from ByteArray.mk_append_mk _ _, ih _ (fun y hy => hx y (by simp [hy]))]
      simp
  have := key ls [] h
  rw [List.nil_append] at this
  exact this
open Classical in
noncomputable def psecF (s : ByteArray) : List Sec × Bool :=
  if (pcs 10 s).length ≤ 11 ∧ (∀ x ∈ (pcs 10 s).dropLast, L3 x) ∧ SecsP ((pcs 10 s).dropLast.map secR) ∧ cat lineC ((pcs 10 s).dropLast.map secR) = s then ((pcs 10 s).dropLast.map secR, true) else ([], false)
theorem psecF_yes {s : ByteArray} (h : (pcs 10 s).length ≤ 11 ∧ (∀ x ∈ (pcs 10 s).dropLast, L3 x) ∧ SecsP ((pcs 10 s).dropLast.map secR) ∧ cat lineC ((pcs 10 s).dropLast.map secR) = s) : psecF s = ((pcs 10 s).dropLast.map secR, true) := by unfold psecF; rw [if_pos h]
theorem psecF_no {s : ByteArray} (h : ¬((pcs 10 s).length ≤ 11 ∧ (∀ x ∈ (pcs 10 s).dropLast, L3 x) ∧ SecsP ((pcs 10 s).dropLast.map secR) ∧ cat lineC ((pcs 10 s).dropLast.map secR) = s)) : psecF s = ([], false) := by unfold psecF; rw [if_neg h]
theorem psecF_len (s : ByteArray) : (psecF s).1.length ≤ 1048576 := by
  unfold psecF
  split
  · rename_i h
    dsimp only
    rw [List.length_map, List.length_dropLast]
    omega
  · simp
theorem sec_bad {x : ByteArray} (h3 : L3 x) (h : ¬OkS x) : ¬SecP (secR x) := by
  intro hw
  have key : ∀ q : List UInt8, 0 ≤ rdF q → (natF q).2 = true := fun q hq => by rw [rd_nat hq]
  have h1 := hw.2.1.1
  have h2 := hw.2.2.1
  unfold secR at h1 h2
  dsimp only at h1 h2
  exact h ⟨h3, key _ (by omega), key _ (by omega)⟩
theorem sec_same {x : ByteArray} (h : OkS x) (hs : SecP (secN x) ∨ SecP (secR x)) : secR x = secN x := by
  rcases hs with hs | hs
  · have h1 := hs.2.1.2
    have h2 := hs.2.2.2
    unfold secN at h1 h2
    dsimp only at h1 h2
    unfold secR secN
    rw [nat_rd h.2.1 (by omega), nat_rd h.2.2 (by omega)]
  · have h1 := hs.2.1.1
    have h2 := hs.2.2.1
    unfold secR at h1 h2
    dsimp only at h1 h2
    unfold secR secN
    rw [rd_nat (l := word x 1) (by omega), rd_nat (l := word x 2) (by omega)]
theorem smap_same {ls : List ByteArray} (hok : ∀ x ∈ ls, OkS x) (h : SecsP (ls.map secN) ∨ SecsP (ls.map secR)) : ls.map secR = ls.map secN := by
  refine List.map_congr_left fun x hx => sec_same (hok x hx) ?_
  rcases h with h | h
  · exact .inl (h.1 _ (List.mem_map_of_mem hx))
  · exact .inr (h.1 _ (List.mem_map_of_mem hx))
theorem sec_nn {x : Sec} (h : SecP x) : 0 ≤ x.2.1 ∧ 0 ≤ x.2.2 := by
  have h1 := h.2.1.1
  have h2 := h.2.2.1
  omega
theorem sprog_yes {s : ByteArray} {ls : List ByteArray} (hl : linesF s = (ls, true)) (h20 : ls.length ≤ 10) (hok : ∀ x ∈ ls, OkS x) (hw : SecsP (ls.map secN)) : psecF s = (ls.map secN, true) := by
  have hp := lines_yes (s := s) (by rw [hl])
  rw [hl] at hp
  dsimp only at hp
  have hs := smap_same hok (.inl hw)
  have hd := dropLast_of hp
  rw [psecF_yes, hd, hs]
  rw [hd, hs]
  refine ⟨by rw [hp]; simp; omega, fun x hx => (hok x hx).1, hw, ?_⟩
  rw [← hs, seccat_text (fun x hx => ?_)]
  · have hj := pcs_join hp
    rw [toB_data, List.append_nil] at hj
    rw [← hj]
    rfl
  · have h1 := hw.1 _ (List.mem_map_of_mem hx)
    rw [← sec_same (hok x hx) (.inl h1)] at h1
    exact ⟨(hok x hx).1, sec_nn h1⟩
theorem sprog_cond {s : ByteArray} (h : (pcs 10 s).length ≤ 11 ∧ (∀ x ∈ (pcs 10 s).dropLast, L3 x) ∧ SecsP ((pcs 10 s).dropLast.map secR) ∧ cat lineC ((pcs 10 s).dropLast.map secR) = s) :
    (linesF s).2 = true ∧ (linesF s).1.length ≤ 10 ∧ (∀ x ∈ (linesF s).1, OkS x) ∧ SecsP ((linesF s).1.map secN) := by
  obtain ⟨h1, h2, h3, h4⟩ := h
  have hw : ∀ x ∈ (pcs 10 s).dropLast, SecP (secR x) := fun x hx => h3.1 _ (List.mem_map_of_mem hx)
  have hcut : pcs 10 s = (pcs 10 s).dropLast ++ [(pcs 10 s).getLast (pcs_ne 10 s)] := (List.dropLast_concat_getLast (pcs_ne 10 s)).symm
  have hj := pcs_join hcut
  have hct := seccat_text (ls := (pcs 10 s).dropLast) (fun x hx => ⟨h2 x hx, sec_nn (hw x hx)⟩)
  rw [h4] at hct
  have hz : ((pcs 10 s).getLast (pcs_ne 10 s)).data.toList = [] := by
    have := congrArg (fun x : ByteArray => x.data.toList) hct
    rw [toB_data, hj] at this
    simpa using this
  have hz2 : (pcs 10 s).getLast (pcs_ne 10 s) = toB [] := by rw [← toB_self ((pcs 10 s).getLast (pcs_ne 10 s)), hz]
  rw [hz2] at hcut
  have ht : (linesF s).2 = true := by
    cases hb : (linesF s).2 with
    | true => rfl
    | false => exact absurd hcut (lines_no hb _)
  have hp := lines_yes ht
  have hd := dropLast_of hp
  rw [hd] at h2 h3 hw
  have hok : ∀ x ∈ (linesF s).1, OkS x := fun x hx => Classical.byContradiction fun hn => sec_bad (h2 x hx) hn (hw x hx)
  refine ⟨ht, ?_, hok, ?_⟩
  · rw [hp] at h1
    simp at h1
    omega
  · rw [← smap_same hok (.inr h3)]
    exact h3
theorem sprog_no {s : ByteArray} (h : ¬((linesF s).2 = true ∧ (linesF s).1.length ≤ 10 ∧ (∀ x ∈ (linesF s).1, OkS x) ∧ SecsP ((linesF s).1.map secN))) : psecF s = ([], false) :=
  psecF_no fun hc => h (sprog_cond hc)
/-- A text cut at its first separator. -/
theorem cut_cons {c b : UInt8} (h : b ≠ c) (l : List UInt8) : Lib.cut (b :: l) [c] = if (Lib.cut l [c]).2.2 = true then (b :: (Lib.cut l [c]).1, (Lib.cut l [c]).2.1, true) else (b :: l, [], false) := by
  have hi := index_other h l
  have hge := Lib.index_ge l [c]
  by_cases hm : Lib.index l [c] = -1
  · have e1 : Lib.index (b :: l) [c] = -1 := by rw [hi, if_pos (beq_iff_eq.2 hm)]
    unfold Lib.cut
    rw [e1, hm]
    rfl
  · obtain ⟨j, hj⟩ : ∃ j : Nat, Lib.index l [c] = j := ⟨(Lib.index l [c]).toNat, by omega⟩
    have e1 : Lib.index (b :: l) [c] = ((j + 1 : Nat) : Int) := by rw [hi, if_neg (fun e => hm (beq_iff_eq.1 e)), hj]; omega
    have p1 : (0 : Int) ≤ ((j + 1 : Nat) : Int) := by omega
    have p2 : (0 : Int) ≤ ((j : Nat) : Int) := by omega
    unfold Lib.cut
    rw [e1, hj]
    simp only [if_pos p1, if_pos p2]
    simp
theorem cut_sepc (c : UInt8) (l : List UInt8) : Lib.cut (c :: l) [c] = ([], l, true) := by
  unfold Lib.cut
  rw [index_sep]
  simp
theorem cut_nil (c : UInt8) : Lib.cut [] [c] = ([], [], false) := by
  unfold Lib.cut
  simp [Lib.index]
theorem pieces_cut (c : UInt8) : ∀ l, pieces c l = if (Lib.cut l [c]).2.2 = true then (Lib.cut l [c]).1 :: pieces c (Lib.cut l [c]).2.1 else [l]
  | [] => by rw [cut_nil]; rfl
  | b :: l => by
    by_cases h : b = c
    · subst h
      rw [cut_sepc, pieces_sep]
      rfl
    · rw [pieces_other h, pieces_cut c l, cut_cons h]
      by_cases hf : (Lib.cut l [c]).2.2 = true
      · rw [if_pos hf, if_pos hf]
        simp [pre]
      · rw [if_neg hf, if_neg hf]
        simp [pre]
theorem cut_len (c : UInt8) : ∀ l, (Lib.cut l [c]).2.1.length ≤ l.length
  | [] => by rw [cut_nil]; exact Nat.le_refl _
  | b :: l => by
    by_cases h : b = c
    · subst h
      rw [cut_sepc]
      simp
    · rw [cut_cons h]
      have := cut_len c l
      split
      · simp only [List.length_cons]; omega
      · simp
/-- What the program finds in a line. -/
theorem line_ok {x : ByteArray} (h : OkS x) : (Lib.cut x.data.toList [32]).2.2 = true ∧ toB (Lib.cut x.data.toList [32]).1 = (secN x).1 ∧ numsF 2 (toB (Lib.cut x.data.toList [32]).2.1) = ([(secN x).2.1, (secN x).2.2], true) := by
  have hc := pieces_cut 32 x.data.toList
  have hw := h.1.words
  by_cases hf : (Lib.cut x.data.toList [32]).2.2 = true
  · rw [if_pos hf, hw] at hc
    have h0 : word x 0 = (Lib.cut x.data.toList [32]).1 := (List.cons.inj hc).1
    have h1 : pieces 32 (Lib.cut x.data.toList [32]).2.1 = [word x 1, word x 2] := (List.cons.inj hc).2.symm
    refine ⟨hf, by rw [← h0]; rfl, ?_⟩
    have hp : pieces 32 (toB (Lib.cut x.data.toList [32]).2.1).data.toList = [word x 1, word x 2] := h1
    rw [numsF_yes ⟨by unfold pcs; rw [hp]; rfl, fun p hp' => ?_⟩, hp]
    · rfl
    · rw [hp] at hp'
      simp only [List.mem_cons, List.mem_nil_iff, or_false] at hp'
      rcases hp' with rfl | rfl
      · exact h.2.1
      · exact h.2.2
  · rw [if_neg hf, hw] at hc
    simp at hc
theorem line_bad {x : ByteArray} (h : ¬OkS x) : (Lib.cut x.data.toList [32]).2.2 = false ∨ numsF 2 (toB (Lib.cut x.data.toList [32]).2.1) = ([], false) := by
  by_cases hf : (Lib.cut x.data.toList [32]).2.2 = true
  · refine .inr (numsF_no fun hn => h ?_)
    have hc := pieces_cut 32 x.data.toList
    rw [if_pos hf] at hc
    have hl : (pieces 32 (Lib.cut x.data.toList [32]).2.1).length = 2 := by
      have := hn.1
      unfold pcs at this
      rwa [List.length_map] at this
    match hp : pieces 32 (Lib.cut x.data.toList [32]).2.1, hl with
    | [a, b], _ =>
      rw [hp] at hc
      have h3 : L3 x := by unfold L3 pcs; rw [List.length_map, hc]; rfl
      have hw := h3.words
      rw [hc] at hw
      simp only [List.cons.injEq, and_true] at hw
      refine ⟨h3, ?_, ?_⟩
      · rw [← hw.2.1]
        exact hn.2 a (by show a ∈ pieces 32 (Lib.cut x.data.toList [32]).2.1; rw [hp]; simp)
      · rw [← hw.2.2]
        exact hn.2 b (by show b ∈ pieces 32 (Lib.cut x.data.toList [32]).2.1; rw [hp]; simp)
  · exact .inl (by simpa using hf)
end Go.Proofs.YtbhkcbfmlniamaaDoor
