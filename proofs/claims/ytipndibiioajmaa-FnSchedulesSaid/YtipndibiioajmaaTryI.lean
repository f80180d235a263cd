/-
  The reference's search for the best order, and BestOrder.
-/
import Derived.Test.YtipndibiioajmaaTryT
namespace Go.Proofs.Ytipndibiioajmaa
open Go.RowKit Go.ChangeShapes Go.WideShapes
set_option linter.unusedVariables false

set_option maxHeartbeats 16000000 in
set_option maxRecDepth 100000 in
theorem try_step (A : Option Addr) (cA : Nat) (W : List (Int × Int × Int)) (B : Option Addr) (cB n : Nat) (L : List (Int × Int)) (w0 : World) (g : Nat) (hlW : W.length ≤ 1048576) (HA : Hid (Rd w0 A W)) (HB : Hid (Rd w0 B L)) (Hn : Hid (L.length = n)) (h6 : n ≤ 6) (HW : Hid (WinsP W)) (HL : Hid (∀ r ∈ L, ReP r.1 r.2)) (hg : w0.heap.size ≤ g) (k : Nat) (IH : ∀ k', k = k' + 1 → TryP A cA W B cB n L w0 g k') : TryP A cA W B cB n L w0 g k := by
  intro m o S st w O c D d hmk ho hS hbk hownO hownD hgw hbest
  have Ho := Lib.hid ho
  have HS := Lib.hid hS
  have Hbk := Lib.hid hbk
  have hm6 : m ≤ 6 := by omega
  have hend := endF_bd hbk
  have HrD : Hid (Rd w D S) := own_rd (by rw [hS]; exact hownD)
  have Hbest := Lib.hid hbest
  have HOO := Lib.hid hownO
  have HDD := Lib.hid hownD
  have HIH := Lib.hid IH
  clear ho hS hbk hownO hownD IH
  obtain ⟨v, e, f, hbox, hst⟩ := hbest
  have hgl := hbox.lt
  have c3 := hbox.cell 3 rfl
  have c4 := hbox.cell 4 rfl
  rcases hst with ⟨rfl, rfl⟩ | ⟨o', A', c', rfl, rfl, rfl, hown'⟩
  · go_enter Try.func40, Try.ntmps40
    have IH := HIH.out
    repeat (first | ((with_reducible refine wp_region_gw (by kernel_rfl) (by kernel_rfl) ?_); have hcq := @GwOf.cell; (repeat (go_big_quiet_step (fail))); refine wpQuiet_nil ?_; clear hcq; rintro w' ⟨⟨w', hb⟩, rfl⟩; (try dsimp only); have hc := hb.cells; have hf := hb.frozens; have hz := hb.size; (try simp at hz); (try have hz0 : w.heap.size < w'.heap.size := (by omega)); (try have hz1 : w.heap.size + 1 < w'.heap.size := (by omega)); (try have hz2 : w.heap.size + 2 < w'.heap.size := (by omega)); (try have hz3 : w.heap.size + 3 < w'.heap.size := (by omega)); (try have hz4 : w.heap.size + 4 < w'.heap.size := (by omega)); (try have hz5 : w.heap.size + 5 < w'.heap.size := (by omega))) | (go_at_K; go_step; exact try_tail A cA W B cB n L w0 g hlW HA HB Hn h6 HW HL hg k IH m o S _ w _ O c D d hmk Ho HS Hbk (own_gw HOO.out hb) (own_gw HDD.out hb) (hgw.trans hb) (Hbest.out.gw hb) (fun h => h) hb) | go_step)
  · by_cases hle : e ≤ endF S
    · have e1 : decide (endF S ≥ e) = true := by simp; omega
      have e2 : decide (e ≤ endF S) = true := by simp; omega
      have hs : Hid (tryF W L k o S (some (o', e)) = some (o', e)) := tryF_stop hle
      clear hown' hle
      go_enter Try.func40, Try.ntmps40
      go_wp2_with ((with_reducible refine wp_region_gw (by kernel_rfl) (by kernel_rfl) ?_); have hcq := @GwOf.cell; (repeat (go_big_quiet_step ((go_at_call 63; exact GwOf.call (s_reEndN _ _ _ S _ HS.out (by omega) (HrD.out.gw (GwOf.gw _))))))); refine wpQuiet_nil ?_; clear hcq; rintro w' ⟨⟨w', hb⟩, rfl⟩; (try dsimp only); have hc := hb.cells; have hf := hb.frozens; have hz := hb.size; (try simp at hz); (try have hz0 : w.heap.size < w'.heap.size := (by omega)); (try have hz1 : w.heap.size + 1 < w'.heap.size := (by omega)); (try have hz2 : w.heap.size + 2 < w'.heap.size := (by omega)); (try have hz3 : w.heap.size + 3 < w'.heap.size := (by omega)); (try have hz4 : w.heap.size + 4 < w'.heap.size := (by omega)); (try have hz5 : w.heap.size + 5 < w'.heap.size := (by omega)))
      ((try simp only [Exit.inBlock, Exit.then]); refine bodyPost_ret (v := .tuple #[]) (by simp [results, Try.results40, go_sem]) rfl ?_)
      exact ⟨rfl, by rw [hs.out]; exact Hbest.out.gw hb, hb.by_ _⟩
    · have e1 : decide (endF S ≥ e) = false := by simp; omega
      have e2 : decide (e ≤ endF S) = false := by simp; omega
      have hns : ¬stops (some (o', e)) S := hle
      have Hns := Lib.hid hns
      clear hown' hle hns
      go_enter Try.func40, Try.ntmps40
      have IH := HIH.out
      repeat (first | ((with_reducible refine wp_region_gw (by kernel_rfl) (by kernel_rfl) ?_); have hcq := @GwOf.cell; (repeat (go_big_quiet_step ((go_at_call 63; exact GwOf.call (s_reEndN _ _ _ S _ HS.out (by omega) (HrD.out.gw (GwOf.gw _))))))); refine wpQuiet_nil ?_; clear hcq; rintro w' ⟨⟨w', hb⟩, rfl⟩; (try dsimp only); have hc := hb.cells; have hf := hb.frozens; have hz := hb.size; (try simp at hz); (try have hz0 : w.heap.size < w'.heap.size := (by omega)); (try have hz1 : w.heap.size + 1 < w'.heap.size := (by omega)); (try have hz2 : w.heap.size + 2 < w'.heap.size := (by omega)); (try have hz3 : w.heap.size + 3 < w'.heap.size := (by omega)); (try have hz4 : w.heap.size + 4 < w'.heap.size := (by omega)); (try have hz5 : w.heap.size + 5 < w'.heap.size := (by omega))) | (go_at_K; go_step; exact try_tail A cA W B cB n L w0 g hlW HA HB Hn h6 HW HL hg k IH m o S _ w _ O c D d hmk Ho HS Hbk (own_gw HOO.out hb) (own_gw HDD.out hb) (hgw.trans hb) (Hbest.out.gw hb) Hns hb) | go_step)
theorem s_try (A : Option Addr) (cA : Nat) (W : List (Int × Int × Int)) (B : Option Addr) (cB n : Nat) (L : List (Int × Int)) (w0 : World) (g : Nat) (hlW : W.length ≤ 1048576) (HA : Hid (Rd w0 A W)) (HB : Hid (Rd w0 B L)) (Hn : Hid (L.length = n)) (h6 : n ≤ 6) (HW : Hid (WinsP W)) (HL : Hid (∀ r ∈ L, ReP r.1 r.2)) (hg : w0.heap.size ≤ g) : ∀ k, TryP A cA W B cB n L w0 g k
  | 0 => try_step A cA W B cB n L w0 g hlW HA HB Hn h6 HW HL hg 0 (fun k' h => by omega)
  | k + 1 => try_step A cA W B cB n L w0 g hlW HA HB Hn h6 HW HL hg (k + 1) (fun k' h => (show k = k' by omega) ▸ s_try A cA W B cB n L w0 g hlW HA HB Hn h6 HW HL hg k)

set_option maxHeartbeats 8000000 in
set_option maxRecDepth 100000 in
theorem s_BestOrder (A : Option Addr) (cA : Nat) (W : List (Int × Int × Int)) (B : Option Addr) (cB : Nat) (L : List (Int × Int)) (w : World) (hlW : W.length ≤ 1048576) (hA : Rd w A W) (_hcA : W.length ≤ cA) (hlL : L.length ≤ 1048576) (hB : Rd w B L) (_hcB : L.length ≤ cB) :
    Calls Try.prog 7 #[.slice A W.length cA, .slice B L.length cB] w fun e w' => ∃ A c, e = .returned (.tuple #[.slice A (bestOF W L).1.length c, .int .i64 (bestOF W L).2.1, .bool (bestOF W L).2.2]) ∧
      w'.ownsRow w.heap.size 3 1 (.slice A (bestOF W L).1.length c) (bestOF W L).1.length (flat (bestOF W L).1) ∧ Gw w w' := by
  have HA := Lib.hid hA
  have HB := Lib.hid hB
  go_enter Try.func7, Try.ntmps7
  go_wp2_with fail
  refine (s_wnGood _ _ _ _ hlW hA).mono ?_
  rintro _ w1 (⟨hp, rfl, hb1⟩ | ⟨hp, rfl, hb1⟩)
  case inr =>
    have hno := Lib.hid (bestOF_bad (W := W) (L := L) (fun h => hp h.1))
    clear hp
    go_wp2_with fail
    go_ret3
    exact ⟨none, 0, ret_oeb (l := []) hno.out, by rw [hno.out]; exact World.ownsRow_nil _ _ _ _, hb1⟩
  have HW := Lib.hid hp
  clear hp
  go_wp2_with fail
  refine (s_reGood _ _ _ _ hlL (hB.gw hb1)).mono ?_
  rintro _ w2 (⟨hp, rfl, hb2⟩ | ⟨hp, rfl, hb2⟩)
  case inr =>
    have hno := Lib.hid (bestOF_bad (W := W) (L := L) (fun h => hp h.2))
    clear hp
    go_wp2_with fail
    go_ret3
    exact ⟨none, 0, ret_oeb (l := []) hno.out, by rw [hno.out]; exact World.ownsRow_nil _ _ _ _, hb1.trans hb2⟩
  have HP := Lib.hid hp
  have h6 := hp.2
  clear hp hA hB
  have hG2 := Gw.trans hb1 hb2
  have hG2z := hG2.size
  obtain ⟨n, hn⟩ : ∃ n, L.length = n := ⟨_, rfl⟩
  have Hn := Lib.hid hn
  rw [hn] at hlL h6 ⊢
  clear hn
  have bx := BoxR.new w2 #[.slice A W.length cA, .slice B n cB, .slice none 0 0, .int .i64 0, .bool false] 68
  have hG3 : Gw w (w2.alloc (.cells #[.slice A W.length cA, .slice B n cB, .slice none 0 0, .int .i64 0, .bool false] 68)) := hG2.alloc _
  have T := s_try A cA W B cB n L w w2.heap.size hlW HA HB Hn h6 HW HP.out.1 hG2z n 0 [] [] none _ none 0 none 0 (by omega) rfl rfl bookP_nil (World.ownsRow_nil _ _ _ _) (World.ownsRow_nil _ _ _ _) hG3 ⟨_, _, _, bx, .inl ⟨rfl, rfl⟩⟩
  have hbest : tryF W L n [] [] none = bestF W L := by
    have := try_best W L
    rw [Hn.out] at this
    exact this
  rw [hbest] at T
  have T := Lib.hid T
  clear hbest
  go_wp2_with fail
  refine T.out.mono ?_
  rintro _ w3 ⟨rfl, hb3, hgr⟩
  have hGw := gw_box hG3 hG2z hgr
  clear T hgr bx
  obtain ⟨v, e, f, hbox, hst⟩ := hb3
  have hgl := hbox.lt
  have c2 := hbox.cell 2 rfl
  have c3 := hbox.cell 3 rfl
  have c4 := hbox.cell 4 rfl
  rcases hst with ⟨h1, rfl⟩ | ⟨o', A', c', h1, rfl, rfl, hown'⟩
  · have hfin := Lib.hid (bestOF_none ⟨HW.out, HP.out⟩ h1)
    clear h1
    go_wp2_with fail
    go_ret3
    exact ⟨none, 0, ret_oeb (l := []) hfin.out, by rw [hfin.out]; exact World.ownsRow_nil _ _ _ _, hGw⟩
  · have hfin := Lib.hid (bestOF_some ⟨HW.out, HP.out⟩ h1)
    clear h1
    go_wp2_with ((with_reducible refine wp_region_gw (by kernel_rfl) (by kernel_rfl) ?_); have hcq := @GwOf.cell; (repeat (go_big_quiet_step (fail))); refine wpQuiet_nil ?_; clear hcq; rintro w' ⟨⟨w', hb⟩, rfl⟩; (try dsimp only); have hc := hb.cells; have hf := hb.frozens; have hz := hb.size; (try simp at hz); (try have hz0 : w.heap.size < w'.heap.size := (by omega)); (try have hz1 : w.heap.size + 1 < w'.heap.size := (by omega)); (try have hz2 : w.heap.size + 2 < w'.heap.size := (by omega)); (try have hz3 : w.heap.size + 3 < w'.heap.size := (by omega)); (try have hz4 : w.heap.size + 4 < w'.heap.size := (by omega)); (try have hz5 : w.heap.size + 5 < w'.heap.size := (by omega)))
    go_ret3
    exact ⟨A', c', ret_oeb hfin.out, by rw [hfin.out]; exact own_gw hown' hb, hGw.trans hb⟩
end Go.Proofs.Ytipndibiioajmaa
