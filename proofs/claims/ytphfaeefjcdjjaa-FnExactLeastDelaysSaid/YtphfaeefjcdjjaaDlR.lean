/-
  LeastDelays, the reference's.
-/
import Derived.Test.YtphfaeefjcdjjaaDlQ
namespace Go.Proofs.Ytphfaeefjcdjjaa
open Go.RowKit Go.ChangeShapes Go.WideShapes
set_option linter.unusedVariables false

def Z902 : Array Value := (.slice none 0 0 :: .int .i64 0 :: List.replicate 900 (.int .i64 0)).toArray
theorem Z902_size : Z902.size = 902 := by unfold Z902; rw [List.size_toArray, List.length_cons, List.length_cons, List.length_replicate]
theorem zeroR : Try.zeroCells57 = Z902 := by kernel_rfl
theorem KnD.new (w : World) (mv : Value) (least : Int) (cl : Nat → Nat → Nat → Nat → Bool) :
    KnB (w.alloc (.cells ((Try.zeroCells57.setIfInBounds 0 mv).setIfInBounds 1 (.int .i64 least)) 57)) w.heap.size mv least cl := by
  rw [zeroR]
  refine ⟨_, BoxR.new _ _ _, by rw [Array.size_setIfInBounds, Array.size_setIfInBounds, Z902_size], fun i k p q hi hk hp hq => ⟨0, ?_, .inl rfl⟩, ?_, ?_⟩
  · rw [Array.getElem?_setIfInBounds, if_neg (by omega), Array.getElem?_setIfInBounds, if_neg (by omega)]
    unfold Z902
    rw [List.getElem?_toArray, show 2 + i * 150 + k * 25 + p * 5 + q = i * 150 + k * 25 + p * 5 + q + 1 + 1 by omega, List.getElem?_cons_succ, List.getElem?_cons_succ, List.getElem?_replicate, if_pos (by omega)]
  · rw [Array.getElem?_setIfInBounds, if_neg (by omega), Array.getElem?_setIfInBounds, if_pos rfl, if_pos (by rw [Z902_size]; omega)]
  · rw [Array.getElem?_setIfInBounds, if_pos rfl, if_pos (by rw [Array.size_setIfInBounds, Z902_size]; omega)]
/-- What the reference's search gives. -/
def BestR (w : World) (base n : Nat) (st : Option (List Int × Int)) (v : Value) (e : Int) : Prop :=
  (st = none ∧ v = .slice none 0 0 ∧ e = 0) ∨ (∃ (o : List Int) (A : Option Addr) (c : Nat), st = some (o, e) ∧ o.length = n ∧ v = .slice A n c ∧ w.ownsRow base 3 1 (.slice A n c) n (flat o))
theorem bestD_of {cl : Nat → Nat → Nat → Nat → Bool} {n s : Nat} {o : List Int} (hno : ∀ s', s' < s → findD cl n [] s' = none) (hs : findD cl n [] s = some o) : bestD cl n = some (o, (s : Int)) := by
  cases hb : bestD cl n with
  | none => rw [bestD_none hb s] at hs; cases hs
  | some x =>
    obtain ⟨o', e⟩ := x
    obtain ⟨s', rfl, h1, h2, h3, h4⟩ := bestD_some hb
    rcases Nat.lt_trichotomy s s' with h | h | h
    · rw [h3 s h] at hs; cases hs
    · subst h; rw [h2] at hs; cases hs; rfl
    · rw [hno s' h] at h2; cases h2
theorem bestD_no {cl : Nat → Nat → Nat → Nat → Bool} {n : Nat} (hno : ∀ s', s' < 4 * n + 1 → findD cl n [] s' = none) : bestD cl n = none := by
  cases hb : bestD cl n with
  | none => rfl
  | some x =>
    obtain ⟨o', e⟩ := x
    obtain ⟨s', rfl, h1, h2, h3, h4⟩ := bestD_some hb
    rw [hno s' (by omega)] at h2; cases h2

set_option maxHeartbeats 8000000 in
set_option maxRecDepth 100000 in
theorem s_rpDelays (A : Option Addr) (ca : Nat) (F : List (Int × Int)) (B : Option Addr) (cb : Nat) (G : List (Int × Int)) (C : Int) (D : Option Addr) (cd : Nat) (P : List Int) (least : Int) (w : World) (rF : Rd w A F) (rG : Rd w B G) (rP : Rd w D P) (hT : RepT F G C P) (hl : InR least 0 80) :
    Calls Try.prog 17 #[.agg #[.slice A F.length ca, .slice B G.length cb, .int .i64 C, .slice D P.length cd], .int .i64 least] w fun e w' => ∃ v s, e = .returned (.tuple #[v, .int .i64 s]) ∧ BestR w' w.heap.size P.length (bestD (clF (movesL F G C P) least P.length) P.length) v s ∧ Gw w w' := by
  have bx := Lib.hid (BoxR.new w #[.slice A F.length ca, .slice B G.length cb, .int .i64 C, .slice D P.length cd] 31)
  have g0 := Lib.hid ((Gw.refl w).alloc (.cells #[.slice A F.length ca, .slice B G.length cb, .int .i64 C, .slice D P.length cd] 31))
  have hP6 : P.length ≤ 6 := by have := hT.1.2.2.2.2.2; have := hT.2.2; omega
  have hP1 : 1 ≤ P.length := by have := hT.1.2.2.2.2.2; have := hT.1.1.2.1; omega
  have hFn : Hid (F.length = P.length) := hT.1.2.2.2.2.2.symm
  have hF6 : F.length ≤ 6 := hT.2.2
  have HT := Lib.hid hT
  have HL := Lib.hid hl
  clear hT hl
  go_enter Try.func17, Try.ntmps17
  go_wp2_with fail
  refine (s_asMoves A ca F B cb G C D cd P _ (rF.gw g0.out) (rG.gw g0.out) (rP.gw g0.out) HT.out).mono ?_
  rintro _ w1 ⟨A1, c1, rfl, hown1, hb1⟩
  have hG1 := Lib.hid (g0.out.trans hb1)
  have bx1 := Lib.hid (bx.out.gw hb1)
  have hrd1 : Hid (Rd w1 A1 (movesL F G C P)) := own_rd (by rw [movesL_len]; exact hown1)
  have hmv := Lib.hid (fun i => movesL_at HT.out (i := i))
  obtain ⟨n, hn⟩ : ∃ n, P.length = n := ⟨_, rfl⟩
  have Hn := Lib.hid hn
  rw [hn] at hP6 hP1 hmv hFn ⊢
  obtain ⟨L, hL⟩ : ∃ L, movesL F G C P = L := ⟨_, rfl⟩
  rw [hL] at hrd1 hmv
  have HnL := Lib.hid hL
  clear hn hL bx hown1 hb1 rF rG rP
  have Hkn := Lib.hid (KnD.new w1 (.slice A1 n c1) least (clF L least n))
  have hwz := hG1.out.size
  have hgw1 : Hid (∀ wr : World, (w1.alloc (.cells ((Try.zeroCells57.setIfInBounds 0 (.slice A1 n c1)).setIfInBounds 1 (.int .i64 least)) 57)).grownBy wr (some w1.heap.size) → Gw w1 wr) := fun wr h => gw_box ((Gw.refl w1).alloc _) (Nat.le_refl _) h
  dsimp only
  go_wp2_with fail
  go_loopw [7] (fun q wr => ∃ s : Nat, q = .int .i64 s ∧ s ≤ 4 * n + 1 ∧ Hid (∀ s', s' < s → findD (clF L least n) n [] s' = none) ∧ KnB wr w1.heap.size (.slice A1 n c1) least (clF L least n) ∧ Gw w1 wr) (fun q _ => 30 - (intOf q).toNat)
  case atStart => exact ⟨0, by go_num, by omega, fun s' h => absurd h (by omega), Hkn.out, (Gw.refl _).alloc _⟩
  case round =>
    obtain ⟨s, rfl, hs, hno, hkb, hg⟩ := hrel
    have p0 := (bx1.out.gw hg).cell 0 rfl
    have hzg := hg.size
    by_cases hlt : s ≤ 4 * n
    · have hd : decide ((s : Int) ≤ 4 * (F.length : Int)) = true := by simp; have := hFn.out; omega
      have T := s_find w1 w1.heap.size n L A1 c1 C least hrd1 hmv hP1 hP6 HL.out (Nat.le_refl _) n 0 [] s wr none 0 (by omega) rfl (fun x hx => by simp at hx) (by omega) (World.ownsRow_nil _ _ _ _) hg hkb
      have HT2 := Lib.hid T
      have Hg := Lib.hid hg
      clear T hg hkb
      go_wp2_with fail
      refine HT2.out.mono ?_
      rintro _ w5 ⟨v, rfl, hfd, hkb5, hgr5⟩
      have HK5 := Lib.hid hkb5
      have HG5 := Lib.hid (gw_box Hg.out (Nat.le_refl _) hgr5)
      clear hkb5 hgr5 HT2
      rcases hfd with ⟨hr, rfl⟩ | ⟨o, A5, c5, hr, ho, rfl, hown5⟩
      · have hno2 : Hid (∀ s', s' < s + 1 → findD (clF L least n) n [] s' = none) := fun s' h => by
          by_cases e : s' = s
          · rw [e]; exact hr
          · exact hno.out s' (by omega)
        clear hr
        dsimp only
        go_wp2_with fail
        go_roundw
        case rel => exact ⟨s + 1, by go_num, by omega, hno2, HK5.out, HG5.out⟩
        case measure => simp [intOf]; omega
      · have hfin := Lib.hid (bestD_of hno.out hr)
        have Ho := Lib.hid ho
        have H5 := Lib.hid hown5
        have hn0 : (0 : Int) < (n : Int) := by omega
        have hn0' : decide ((n : Int) > 0) = true := by simp; omega
        clear hr ho hown5
        dsimp only
        go_wp2_with fail
        go_ret2
        refine ⟨_, (s : Int), rfl, ?_, hG1.out.trans HG5.out⟩
        rw [Hn.out, HnL.out]
        exact .inr ⟨o, A5, c5, hfin.out, Ho.out, rfl, own_lower H5.out hwz⟩
    · have hs4 : Hid (s = 4 * n + 1) := by unfold Hid; omega
      have hd : decide ((s : Int) ≤ 4 * (F.length : Int)) = false := by simp; have := hFn.out; omega
      have hfin := Lib.hid (bestD_no (by rw [← hs4.out]; exact hno.out))
      clear hlt hs
      go_wp2_with fail
      go_ret2
      refine ⟨_, 0, rfl, ?_, hG1.out.trans hg⟩
      rw [Hn.out, HnL.out]
      exact .inl ⟨hfin.out, rfl, rfl⟩

set_option maxHeartbeats 4000000 in
set_option maxRecDepth 100000 in
theorem s_LeastDelays (A : Option Addr) (ca : Nat) (F : List (Int × Int)) (B : Option Addr) (cb : Nat) (G : List (Int × Int)) (C : Int) (D : Option Addr) (cd : Nat) (P : List Int) (least : Int) (w : World) (hF : F.length ≤ 1048576) (rF : Rd w A F) (hca : F.length ≤ ca) (hG : G.length ≤ 1048576) (rG : Rd w B G) (hcb : G.length ≤ cb) (hP : P.length ≤ 1048576) (rP : Rd w D P) (hcd : P.length ≤ cd) :
    Calls Try.prog 5 #[.agg #[.slice A F.length ca, .slice B G.length cb, .int .i64 C, .slice D P.length cd], .int .i64 least] w fun e w' => ∃ A c, e = .returned (.tuple #[.slice A (leastF F G C P least).1.length c, .int .i64 (leastF F G C P least).2.1, .bool (leastF F G C P least).2.2]) ∧
      w'.ownsRow w.heap.size 3 1 (.slice A (leastF F G C P least).1.length c) (leastF F G C P least).1.length (flat (leastF F G C P least).1) ∧ Gw w w' := by
  have g0 := Lib.hid ((Gw.refl w).alloc (.cells #[.slice A F.length ca, .slice B G.length cb, .int .i64 C, .slice D P.length cd] 31))
  have rF := Lib.hid rF
  have rG := Lib.hid rG
  have rP := Lib.hid rP
  go_enter Try.func5, Try.ntmps5
  go_wp2_with fail
  refine (s_rpGood A ca F B cb G C D cd P _ hF (rF.out.gw g0.out) hca hG (rG.out.gw g0.out) hcb hP (rP.out.gw g0.out) hcd).mono ?_
  rintro _ w1 (⟨hp, rfl, hb1⟩ | ⟨hp, rfl, hb1⟩)
  case inr =>
    have hno := Lib.hid (leastF_bad (least := least) (fun h => hp h.1))
    clear hp
    dsimp only
    go_wp2_with fail
    go_ret3
    exact ⟨none, 0, ret_oeb (l := []) hno.out, by rw [hno.out]; exact World.ownsRow_nil _ _ _ _, g0.out.trans hb1⟩
  have HT := Lib.hid hp
  have hG1 := Lib.hid (g0.out.trans hb1)
  have y0 := box_cell hb1 (j := 0) rfl
  have y1 := box_cell hb1 (j := 1) rfl
  have y2 := box_cell hb1 (j := 2) rfl
  have y3 := box_cell hb1 (j := 3) rfl
  have hn1 : 1 ≤ P.length := by have := hp.1.2.2.2.2.2; have := hp.1.1.2.1; omega
  have Hn1 := Lib.hid hn1
  clear hp hn1
  dsimp only
  go_wp2_with fail
  refine (s_apDistance _ _).mono ?_
  rintro _ w2 (⟨hq, rfl, rfl⟩ | ⟨hq, rfl, rfl⟩)
  case inr =>
    have hno := Lib.hid (leastF_bad (F := F) (G := G) (C := C) (P := P) (least := least) (fun h => hq h.2))
    clear hq
    dsimp only
    go_wp2_with fail
    go_ret3
    exact ⟨none, 0, ret_oeb (l := []) hno.out, by rw [hno.out]; exact World.ownsRow_nil _ _ _ _, hG1.out⟩
  have HQ := Lib.hid hq
  clear hq
  dsimp only
  go_wp2_with fail
  refine (s_rpDelays A ca F B cb G C D cd P least _ (rF.out.gw hG1.out) (rG.out.gw hG1.out) (rP.out.gw hG1.out) HT.out HQ.out).mono ?_
  rintro _ w3 ⟨v, s, rfl, hst, hb3⟩
  have hG3 := Lib.hid (hG1.out.trans hb3)
  rcases hst with ⟨h1, rfl, rfl⟩ | ⟨o, A5, c, h1, h4, rfl, h5⟩
  · have hfin := Lib.hid (leastF_none ⟨HT.out, HQ.out⟩ h1)
    clear h1
    dsimp only
    go_wp2_with fail
    go_ret3
    exact ⟨none, 0, ret_oeb (l := []) hfin.out, by rw [hfin.out]; exact World.ownsRow_nil _ _ _ _, hG3.out⟩
  · have hfin := Lib.hid (leastF_some ⟨HT.out, HQ.out⟩ h1)
    have H5 := Lib.hid (own_lower h5 hG1.out.size)
    have H4 := Lib.hid h4
    have hn0 : (0 : Int) < (P.length : Int) := by have := Hn1.out; omega
    have hn0' : decide ((P.length : Int) > 0) = true := by simp; omega
    clear h1 h5 h4
    dsimp only
    go_wp2_with fail
    go_ret3
    exact ⟨A5, c, by rw [show decide (0 < P.length) = true from decide_eq_true Hn1.out, ← H4.out]; exact ret_oeb hfin.out, by rw [hfin.out]; have := H5.out; rw [← H4.out] at this; exact this, hG3.out⟩
end Go.Proofs.Ytphfaeefjcdjjaa
