/-
  Edits squashed: the reference's way.
-/
import Derived.Test.YtbfchmpigedkbaaSqI
import Derived.Test.YtbfchmpigedkbaaStep
namespace Go.Proofs.Ytbfchmpigedkbaa
open Go.RowKit

theorem lastTo_take {α : Type} (C : α → Bool) (l : List α) (k : Nat) : ∀ j, j ≤ k → lastTo C (l.take k) j = lastTo C l j
  | 0, _ => rfl
  | j + 1, hj => by
    have ih := lastTo_take C l k j (by omega)
    simp only [lastTo]
    rw [List.getElem?_take_of_lt (by omega), ih]
theorem rdBox {α : Type} [Flat α] (w : World) (e : TypeId) (y : α) : Rd (w.alloc (.cells (Flat.cells y).toArray e)) (some ⟨w.heap.size, 0, none⟩) [y] := by
  intro _
  refine ⟨w.heap.size, 0, rfl, by simp, fun i z hz j u hu => ?_⟩
  cases i with
  | zero =>
    simp only [List.getElem?_cons_zero, Option.some.injEq] at hz
    subst hz
    rw [cell_of_row _ _ _ _ _ _ (heap_alloc_new w (.cells (Flat.cells y).toArray e))]
    simpa using hu
  | succ i => simp at hz
theorem chain_mem {l : List Ed} {p : Int} {x : Ed} (h : x ∈ chainP l p) : x.2.1 = p := by
  have := (List.mem_filter.1 h).2
  simpa [byP] using this

set_option maxHeartbeats 4000000 in
set_option maxRecDepth 100000 in
theorem s_SquashEdits (A : Option Addr) (c : Nat) (l : List Ed) (w : World) (hl : l.length ≤ 1048576) (hA : Rd w A l) (hlc : l.length ≤ c) :
    Calls Try.prog 15 #[.slice A l.length c] w fun e w' => ∃ A c, e = .returned (.tuple #[.slice A (squashF l).1.length c, .bool (squashF l).2]) ∧
      w'.ownsRow w.heap.size 50 6 (.slice A (squashF l).1.length c) (squashF l).1.length (flat (squashF l).1) ∧ Gw w w' := by
  obtain ⟨i0, hi, hz0, hz1, hz2⟩ := info_parts infoEdit
  have HA := Lib.hid hA
  go_enter Try.func15, Try.ntmps15
  go_wp2_with fail
  refine (s_edAll _ _ _ _ hl hA).mono ?_
  rintro _ w1 (⟨hp, rfl, hb1⟩ | ⟨hp, rfl, hb1⟩)
  case inr =>
    have hno := Lib.hid (squashF_bad (l := l) (fun h => hp h.1))
    clear hp
    go_wp2_with fail
    go_ret2
    exact ⟨none, 0, ret_lb (A := none) (c := 0) hno.out, by rw [hno.out]; exact World.ownsRow_nil _ _ _ _, by (repeat (first | with_reducible exact Gw.refl _ | with_reducible assumption | ((with_reducible refine Gw.set ?_ ?_ _); rotate_left; (focus (first | (simp; done) | (simp; omega) | omega))) | with_reducible refine Gw.alloc ?_ _ | with_reducible refine Gw.drew ?_ | with_reducible refine Gw.drewN ?_ _ | (refine Gw.trans ?_ (by with_reducible assumption))))⟩
  have HE := Lib.hid hp
  clear hp hA
  go_wp2_with fail
  go_loopw [16] (fun i wr => ∃ k : Nat, i = .int .i64 k ∧ k ≤ l.length ∧ Hid (LkAll (l.take k)) ∧ Gw w wr) (fun i _ => l.length - (intOf i).toNat)
  case atStart => exact ⟨0, by go_num, Nat.zero_le _, lkAll_zero l, by (repeat (first | with_reducible exact Gw.refl _ | with_reducible assumption | ((with_reducible refine Gw.set ?_ ?_ _); rotate_left; (focus (first | (simp; done) | (simp; omega) | omega))) | with_reducible refine Gw.alloc ?_ _ | with_reducible refine Gw.drew ?_ | with_reducible refine Gw.drewN ?_ _ | (refine Gw.trans ?_ (by with_reducible assumption))))⟩
  case round =>
    obtain ⟨k, rfl, hk, hlk, hgw⟩ := hrel
    by_cases hkl : k < l.length
    · obtain ⟨x, hx⟩ := get_of_lt hkl
      have hAr := HA.out.gw hgw
      have hAt := Lib.hid (hAr.take k)
      obtain ⟨b, off, hAe, hb, c0, c1, c2, c3, c4, c5⟩ := hAr.get6 hx
      subst hAe
      have Hx := Lib.hid hx
      have hlk2 : Hid ((l.take k).length = k) := by unfold Hid; rw [List.length_take]; omega
      have hk2 : k ≤ c := by omega
      have hla := last_chain l x.2.1 k hk
      have hnx := fun h => Lib.hid (lkAll_succ hx hlk.out h)
      have hbad := fun y hy hn => Lib.hid (squashF_bad (l := l) (fun h => lk_bad (y := y) hx hy hn h.2))
      clear hx
      obtain ⟨x0, xp, x2, x3, x4, x5⟩ := x
      dsimp only at c0 c1 c2 c3 c4 c5 hla hnx hbad
      have hbw : b < wr.heap.size + 1 := by omega
      have hld := Lib.hid (lastTo_take (byP xp) l k k (Nat.le_refl _))
      obtain ⟨q, hq⟩ : ∃ q, lastTo (byP xp) l k = q := ⟨_, rfl⟩
      rw [hq] at hla
      have Hq : Hid (lastTo (byP xp) (l.take k) k = q) := by unfold Hid; rw [hld.out, hq]
      clear hq hld
      rcases hla with ⟨rfl, hnil⟩ | ⟨j, y, rfl, hjk, hy, hyl⟩
      · have hn := hnx (fun y hy => by rw [hnil] at hy; simp at hy)
        clear hnil hnx hbad
        go_wp2_with ((with_reducible refine wp_region_gw (by kernel_rfl) (by kernel_rfl) ?_); have hcq := @GwOf.cell; (repeat (go_big_quiet_step ((go_at_call 33; refine GwOf.call (v := .int .i64 (-1)) ?_; rw [← Hq.out]; exact s_edLast _ _ _ (l.take k) _ _ hlk2.out (by omega) (hAt.out.gw (Gw.trans (by (repeat (first | with_reducible exact Gw.refl _ | with_reducible assumption | ((with_reducible refine Gw.set ?_ ?_ _); rotate_left; (focus (first | (simp; done) | (simp; omega) | omega))) | with_reducible refine Gw.alloc ?_ _ | with_reducible refine Gw.drew ?_ | with_reducible refine Gw.drewN ?_ _ | (refine Gw.trans ?_ (by with_reducible assumption))))) (GwOf.gw _))))))); refine wpQuiet_nil ?_; clear hcq; rintro w' ⟨⟨w', hb⟩, rfl⟩; (try dsimp only); have hc := hb.cells; have hf := hb.frozens; have hz := hb.size; (try simp at hz); (try have hz0 : w.heap.size < w'.heap.size := (by omega)); (try have hz1 : w.heap.size + 1 < w'.heap.size := (by omega)); (try have hz2 : w.heap.size + 2 < w'.heap.size := (by omega)); (try have hz3 : w.heap.size + 3 < w'.heap.size := (by omega)); (try have hz4 : w.heap.size + 4 < w'.heap.size := (by omega)); (try have hz5 : w.heap.size + 5 < w'.heap.size := (by omega)))
        go_roundw
        case rel => exact ⟨k + 1, by go_num, by omega, hn, by (repeat (first | with_reducible exact Gw.refl _ | with_reducible assumption | ((with_reducible refine Gw.set ?_ ?_ _); rotate_left; (focus (first | (simp; done) | (simp; omega) | omega))) | with_reducible refine Gw.alloc ?_ _ | with_reducible refine Gw.drew ?_ | with_reducible refine Gw.drewN ?_ _ | (refine Gw.trans ?_ (by with_reducible assumption))))⟩
        case measure => simp [intOf]; omega
      · obtain ⟨b', off', hAe, hb', d0, d1, d2, d3, d4, d5⟩ := hAr.get6 hy
        simp only [Option.some.injEq, Addr.mk.injEq, and_true] at hAe
        obtain ⟨rfl, rfl⟩ := hAe
        obtain ⟨y0, yp, y2, y3, y4, y5⟩ := y
        dsimp only at d0 d1 d2 d3 d4 d5
        have hjl : (j : Int) < (l.length : Int) := by omega
        have hj0 : (0 : Int) ≤ (j : Int) := by omega
        have g1 : decide ((j : Int) ≥ 0) = true := by simp
        have g2 : decide (0 ≤ (j : Int)) = true := by simp
        clear hy
        by_cases hF : y4 = x2 ∧ y5 = x3
        · have hn := hnx (fun z hz => by rw [hyl] at hz; cases hz; exact hF)
          have e2 : (y4 == x2) = true := by simp [hF.1]
          have e3 : (y5 == x3) = true := by simp [hF.2]
          clear hnx hbad hF hyl
          go_wp2_with ((with_reducible refine wp_region_gw (by kernel_rfl) (by kernel_rfl) ?_); have hcq := @GwOf.cell; (repeat (go_big_quiet_step ((go_at_call 33; refine GwOf.call (v := .int .i64 (j : Int)) ?_; rw [← Hq.out]; exact s_edLast _ _ _ (l.take k) _ _ hlk2.out (by omega) (hAt.out.gw (Gw.trans (by (repeat (first | with_reducible exact Gw.refl _ | with_reducible assumption | ((with_reducible refine Gw.set ?_ ?_ _); rotate_left; (focus (first | (simp; done) | (simp; omega) | omega))) | with_reducible refine Gw.alloc ?_ _ | with_reducible refine Gw.drew ?_ | with_reducible refine Gw.drewN ?_ _ | (refine Gw.trans ?_ (by with_reducible assumption))))) (GwOf.gw _))))))); refine wpQuiet_nil ?_; clear hcq; rintro w' ⟨⟨w', hb⟩, rfl⟩; (try dsimp only); have hc := hb.cells; have hf := hb.frozens; have hz := hb.size; (try simp at hz); (try have hz0 : w.heap.size < w'.heap.size := (by omega)); (try have hz1 : w.heap.size + 1 < w'.heap.size := (by omega)); (try have hz2 : w.heap.size + 2 < w'.heap.size := (by omega)); (try have hz3 : w.heap.size + 3 < w'.heap.size := (by omega)); (try have hz4 : w.heap.size + 4 < w'.heap.size := (by omega)); (try have hz5 : w.heap.size + 5 < w'.heap.size := (by omega)))
          have hbb : b < w'.heap.size := by omega
          have hbw2 : wr.heap.size < w'.heap.size := by omega
          go_wp2_with ((with_reducible refine wp_region_gw (by kernel_rfl) (by kernel_rfl) ?_); have hcq := @GwOf.cell; (repeat (go_big_quiet_step (fail))); refine wpQuiet_nil ?_; clear hcq; rintro w' ⟨⟨w', hb⟩, rfl⟩; (try dsimp only); have hc := hb.cells; have hf := hb.frozens; have hz := hb.size; (try simp at hz); (try have hz0 : w.heap.size < w'.heap.size := (by omega)); (try have hz1 : w.heap.size + 1 < w'.heap.size := (by omega)); (try have hz2 : w.heap.size + 2 < w'.heap.size := (by omega)); (try have hz3 : w.heap.size + 3 < w'.heap.size := (by omega)); (try have hz4 : w.heap.size + 4 < w'.heap.size := (by omega)); (try have hz5 : w.heap.size + 5 < w'.heap.size := (by omega)))
          go_roundw
          case rel => exact ⟨k + 1, by go_num, by omega, hn, by (repeat (first | with_reducible exact Gw.refl _ | with_reducible assumption | ((with_reducible refine Gw.set ?_ ?_ _); rotate_left; (focus (first | (simp; done) | (simp; omega) | omega))) | with_reducible refine Gw.alloc ?_ _ | with_reducible refine Gw.drew ?_ | with_reducible refine Gw.drewN ?_ _ | (refine Gw.trans ?_ (by with_reducible assumption))))⟩
          case measure => simp [intOf]; omega
        · have hno := hbad _ hyl hF
          clear hnx hbad hyl
          by_cases h4 : y4 = x2
          all_goals
            first
              | (have e2 : (y4 == x2) = true := by simp [h4]
                 have h5 : ¬(y5 = x3) := fun h => hF ⟨h4, h⟩
                 have e3 : (y5 == x3) = false := by simp [h5]
                 clear h5)
              | (have e2 : (y4 == x2) = false := by simp [h4])
            clear hF h4
            go_wp2_with ((with_reducible refine wp_region_gw (by kernel_rfl) (by kernel_rfl) ?_); have hcq := @GwOf.cell; (repeat (go_big_quiet_step ((go_at_call 33; refine GwOf.call (v := .int .i64 (j : Int)) ?_; rw [← Hq.out]; exact s_edLast _ _ _ (l.take k) _ _ hlk2.out (by omega) (hAt.out.gw (Gw.trans (by (repeat (first | with_reducible exact Gw.refl _ | with_reducible assumption | ((with_reducible refine Gw.set ?_ ?_ _); rotate_left; (focus (first | (simp; done) | (simp; omega) | omega))) | with_reducible refine Gw.alloc ?_ _ | with_reducible refine Gw.drew ?_ | with_reducible refine Gw.drewN ?_ _ | (refine Gw.trans ?_ (by with_reducible assumption))))) (GwOf.gw _))))))); refine wpQuiet_nil ?_; clear hcq; rintro w' ⟨⟨w', hb⟩, rfl⟩; (try dsimp only); have hc := hb.cells; have hf := hb.frozens; have hz := hb.size; (try simp at hz); (try have hz0 : w.heap.size < w'.heap.size := (by omega)); (try have hz1 : w.heap.size + 1 < w'.heap.size := (by omega)); (try have hz2 : w.heap.size + 2 < w'.heap.size := (by omega)); (try have hz3 : w.heap.size + 3 < w'.heap.size := (by omega)); (try have hz4 : w.heap.size + 4 < w'.heap.size := (by omega)); (try have hz5 : w.heap.size + 5 < w'.heap.size := (by omega)))
            have hbb : b < w'.heap.size := by omega
            have hbw2 : wr.heap.size < w'.heap.size := by omega
            go_wp2_with ((with_reducible refine wp_region_gw (by kernel_rfl) (by kernel_rfl) ?_); have hcq := @GwOf.cell; (repeat (go_big_quiet_step (fail))); refine wpQuiet_nil ?_; clear hcq; rintro w' ⟨⟨w', hb⟩, rfl⟩; (try dsimp only); have hc := hb.cells; have hf := hb.frozens; have hz := hb.size; (try simp at hz); (try have hz0 : w.heap.size < w'.heap.size := (by omega)); (try have hz1 : w.heap.size + 1 < w'.heap.size := (by omega)); (try have hz2 : w.heap.size + 2 < w'.heap.size := (by omega)); (try have hz3 : w.heap.size + 3 < w'.heap.size := (by omega)); (try have hz4 : w.heap.size + 4 < w'.heap.size := (by omega)); (try have hz5 : w.heap.size + 5 < w'.heap.size := (by omega)))
            go_ret2
            exact ⟨none, 0, ret_lb (A := none) (c := 0) hno.out, by rw [hno.out]; exact World.ownsRow_nil _ _ _ _, by (repeat (first | with_reducible exact Gw.refl _ | with_reducible assumption | ((with_reducible refine Gw.set ?_ ?_ _); rotate_left; (focus (first | (simp; done) | (simp; omega) | omega))) | with_reducible refine Gw.alloc ?_ _ | with_reducible refine Gw.drew ?_ | with_reducible refine Gw.drewN ?_ _ | (refine Gw.trans ?_ (by with_reducible assumption))))⟩
    · have hall : Hid (LkAll l) := by have := hlk.out; rw [List.take_of_length_le (by omega)] at this; exact this
      clear hlk
      go_wp2_with fail
      have HG1 := Lib.hid hgw
      clear hgw
      obtain ⟨wx, rfl⟩ : ∃ wx : World, wx = wr := ⟨_, rfl⟩
      go_loopw [7, 8] (fun o q wr => ∃ (p : Nat) (acc : List Ed) (B : Option Addr) (d : Nat), q = .int .i64 p ∧ p ≤ 12 ∧ o = .slice B acc.length d ∧ acc.length ≤ p ∧ wr.ownsRow w.heap.size 50 6 (.slice B acc.length d) acc.length (flat acc) ∧ Hid (acc = sqTo l p) ∧ Gw w wr) (fun _ q _ => 12 - (intOf q).toNat)
      case atStart => exact ⟨0, [], none, 0, by go_num, by omega, rfl, by simp, World.ownsRow_nil _ _ _ _, rfl, HG1.out⟩
      case round =>
        obtain ⟨p, acc, B, d, rfl, hp, rfl, ha1, hown, hacc, hgw⟩ := hrel
        by_cases hlt : p < 12
        · have hAr := HA.out.gw hgw
          have hla := last_chain l (p : Int) l.length (Nat.le_refl _)
          rw [List.take_length] at hla
          obtain ⟨q, hq⟩ : ∃ q, lastTo (byP (p : Int)) l l.length = q := ⟨_, rfl⟩
          rw [hq] at hla
          have Hq := Lib.hid hq
          clear hq
          go_wp2_with fail
          refine (s_edLast _ _ _ l _ _ rfl hl hAr).mono ?_
          rintro _ w2 ⟨rfl, hb2⟩
          rw [Hq.out]
          have hown2 := own_gw hown hb2
          have hgw2 := Gw.trans hgw hb2
          have hz2' := hgw2.size
          rcases hla with ⟨rfl, hnil⟩ | ⟨j, y, rfl, hjk, hy, hyl⟩
          · have hst : Hid (sqTo l (p + 1) = acc) := by unfold Hid sqTo; rw [hnil, sqOne_nil, List.append_nil, hacc.out]
            clear hnil
            go_wp2_with fail
            go_roundw
            case rel => exact ⟨p + 1, acc, B, d, by go_num, by omega, rfl, by omega, hown2, hst.out.symm, by (repeat (first | with_reducible exact Gw.refl _ | with_reducible assumption | ((with_reducible refine Gw.set ?_ ?_ _); rotate_left; (focus (first | (simp; done) | (simp; omega) | omega))) | with_reducible refine Gw.alloc ?_ _ | with_reducible refine Gw.drew ?_ | with_reducible refine Gw.drewN ?_ _ | (refine Gw.trans ?_ (by with_reducible assumption))))⟩
            case measure => simp [intOf]; omega
          · have hyp := chain_mem (List.mem_of_getLast? hyl)
            have Hy := Lib.hid hy
            have Hyl := Lib.hid hyl
            have hA2 := HA.out.gw hgw2
            obtain ⟨b, off, hAe, hb, d0, d1, d2, d3, d4, d5⟩ := hA2.get6 hy
            subst hAe
            clear hy hyl
            obtain ⟨y0, yp, y2, y3, y4, y5⟩ := y
            dsimp only at d0 d1 d2 d3 d4 d5 hyp
            go_wp2_with fail
            go_loop [10] (fun f => ∃ m : Nat, f = .int .i64 m ∧ m ≤ j ∧ Hid (∀ i z, i < m → l[i]? = some z → z.2.1 ≠ (p : Int))) (fun f => j - (intOf f).toNat)
            case atStart => exact ⟨0, by go_num, Nat.zero_le _, fun i z h => absurd h (by omega)⟩
            case round =>
              obtain ⟨m, rfl, hm, hbef⟩ := hrel
              obtain ⟨x, hx⟩ := get_of_lt (l := l) (k := m) (by omega)
              obtain ⟨b', off', hAe, hb', e0, e1, e2, e3, e4, e5⟩ := hA2.get6 hx
              simp only [Option.some.injEq, Addr.mk.injEq, and_true] at hAe
              obtain ⟨rfl, rfl⟩ := hAe
              have Hx := Lib.hid hx
              clear hx
              obtain ⟨x0, xp, x2, x3, x4, x5⟩ := x
              dsimp only at e0 e1 e2 e3 e4 e5
              by_cases hxp : xp = (p : Int)
              · have hh := Lib.hid (head_chain Hx.out hxp (fun i z hi hz => hbef.out i z hi hz))
                have g1 : (xp == (p : Int)) = true := by simp [hxp]
                have bm0 : (0 : Int) ≤ (m : Int) := by omega
                have bm1 : (m : Int) < (l.length : Int) := by omega
                have bj0 : (0 : Int) ≤ (j : Int) := by omega
                have bj1 : (j : Int) < (l.length : Int) := by omega
                clear hbef hyp
                by_cases hF : x2 = y4 ∧ x3 = y5
                · have hst : Hid (sqTo l (p + 1) = acc) := by unfold Hid sqTo; rw [sqOne_eq hh.out Hyl.out hF, List.append_nil, hacc.out]
                  have g2 : (x2 == y4) = true := by simp [hF.1]
                  have g3 : (x3 == y5) = true := by simp [hF.2]
                  clear hF hxp
                  go_wp2_with ((with_reducible refine wp_region_gw (by kernel_rfl) (by kernel_rfl) ?_); have hcq := @GwOf.cell; (repeat (go_big_quiet_step (fail))); refine wpQuiet_nil ?_; clear hcq; rintro w' ⟨⟨w', hb⟩, rfl⟩; (try dsimp only); have hc := hb.cells; have hf := hb.frozens; have hz := hb.size; (try simp at hz); (try have hz0 : w.heap.size < w'.heap.size := (by omega)); (try have hz1 : w.heap.size + 1 < w'.heap.size := (by omega)); (try have hz2 : w.heap.size + 2 < w'.heap.size := (by omega)); (try have hz3 : w.heap.size + 3 < w'.heap.size := (by omega)); (try have hz4 : w.heap.size + 4 < w'.heap.size := (by omega)); (try have hz5 : w.heap.size + 5 < w'.heap.size := (by omega)))
                  go_roundw
                  case rel => exact ⟨p + 1, acc, B, d, by go_num, by omega, rfl, by omega, own_gw hown2 (by (repeat (first | with_reducible exact Gw.refl _ | with_reducible assumption | ((with_reducible refine Gw.set ?_ ?_ _); rotate_left; (focus (first | (simp; done) | (simp; omega) | omega))) | with_reducible refine Gw.alloc ?_ _ | with_reducible refine Gw.drew ?_ | with_reducible refine Gw.drewN ?_ _ | (refine Gw.trans ?_ (by with_reducible assumption))))), hst.out.symm, by (repeat (first | with_reducible exact Gw.refl _ | with_reducible assumption | ((with_reducible refine Gw.set ?_ ?_ _); rotate_left; (focus (first | (simp; done) | (simp; omega) | omega))) | with_reducible refine Gw.alloc ?_ _ | with_reducible refine Gw.drew ?_ | with_reducible refine Gw.drewN ?_ _ | (refine Gw.trans ?_ (by with_reducible assumption))))⟩
                  case measure => simp [intOf]; omega
                · have hst : Hid (sqTo l (p + 1) = acc ++ [(y0, xp, x2, x3, y4, y5)]) := by unfold Hid sqTo; rw [sqOne_ne hh.out Hyl.out hF, hacc.out]
                  rw [hxp] at hst
                  by_cases h4 : x2 = y4
                  all_goals
                    first
                      | (have g2 : (x2 == y4) = true := by simp [h4]
                         have h5 : ¬(x3 = y5) := fun h => hF ⟨h4, h⟩
                         have g3 : (x3 == y5) = false := by simp [h5]
                         clear h5)
                      | (have g2 : (x2 == y4) = false := by simp [h4])
                    clear hF h4 hxp
                    go_wp2_with ((with_reducible refine wp_region_gw (by kernel_rfl) (by kernel_rfl) ?_); have hcq := @GwOf.cell; (repeat (go_big_quiet_step (fail))); refine wpQuiet_nil ?_; clear hcq; rintro w' ⟨⟨w', hb⟩, rfl⟩; (try dsimp only); have hc := hb.cells; have hf := hb.frozens; have hz := hb.size; (try simp at hz); (try have hz0 : w.heap.size < w'.heap.size := (by omega)); (try have hz1 : w.heap.size + 1 < w'.heap.size := (by omega)); (try have hz2 : w.heap.size + 2 < w'.heap.size := (by omega)); (try have hz3 : w.heap.size + 3 < w'.heap.size := (by omega)); (try have hz4 : w.heap.size + 4 < w'.heap.size := (by omega)); (try have hz5 : w.heap.size + 5 < w'.heap.size := (by omega)))
                    obtain ⟨b2, off2, hAe, hbw, q0, q1, q2, q3, q4, q5⟩ := HA.out.get6 Hy.out
                    simp only [Option.some.injEq, Addr.mk.injEq, and_true] at hAe
                    obtain ⟨rfl, rfl⟩ := hAe
                    obtain ⟨b2, off2, hAe, _, r0, r1, r2, r3, r4, r5⟩ := HA.out.get6 Hx.out
                    simp only [Option.some.injEq, Addr.mk.injEq, and_true] at hAe
                    obtain ⟨rfl, rfl⟩ := hAe
                    dsimp only at q0 q4 q5 r2 r3
                    have hks : ∀ u, Gw w u → (u.cell? ⟨b, off + j * 6, none⟩ = some (.int .i64 y0) ∧ u.cell? ⟨b, off + m * 6 + 2, none⟩ = some (.int .i64 x2) ∧ u.cell? ⟨b, off + m * 6 + 3, none⟩ = some (.int .i64 x3) ∧ u.cell? ⟨b, off + j * 6 + 4, none⟩ = some (.int .i64 y4) ∧ u.cell? ⟨b, off + j * 6 + 5, none⟩ = some (.int .i64 y5)) := fun u hu =>
                      ⟨by rw [hu.cells _ _ hbw]; exact q0, by rw [hu.cells _ _ hbw]; exact r2, by rw [hu.cells _ _ hbw]; exact r3, by rw [hu.cells _ _ hbw]; exact q4, by rw [hu.cells _ _ hbw]; exact q5⟩
                    have Hks := Lib.hid hks
                    have hgw3 : Gw w w' := Gw.trans hgw2 hb
                    have hown3 := own_gw hown2 hb
                    have hz3 := hgw3.size
                    clear hks q0 q1 q2 q3 q4 q5 r0 r1 r2 r3 r4 r5 d0 d1 d2 d3 d4 d5 e0 e1 e2 e3 e4 e5 hc hf
                    go_region_held3 (fun u => u.cell? ⟨b, off + j * 6, none⟩ = some (.int .i64 y0) ∧ u.cell? ⟨b, off + m * 6 + 2, none⟩ = some (.int .i64 x2) ∧ u.cell? ⟨b, off + m * 6 + 3, none⟩ = some (.int .i64 x3) ∧ u.cell? ⟨b, off + j * 6 + 4, none⟩ = some (.int .i64 y4) ∧ u.cell? ⟨b, off + j * 6 + 5, none⟩ = some (.int .i64 y5)) (first | exact Hks.out _ (by (repeat (first | with_reducible exact Gw.refl _ | with_reducible assumption | ((with_reducible refine Gw.set ?_ ?_ _); rotate_left; (focus (first | (simp; done) | (simp; omega) | omega))) | with_reducible refine Gw.alloc ?_ _ | with_reducible refine Gw.drew ?_ | with_reducible refine Gw.drewN ?_ _ | (refine Gw.trans ?_ (by with_reducible assumption))))) | go_keep)
                      (first
                        | (refine step_cat (α := Ed) rfl (.tmp 69) (.tmp 87) 27 (by rfl) w.heap.size 50 i0 _ 48 Try.underlying27 hi hz0 hz1 hz2 rfl (by omega) acc acc.length rfl B d (by rfl) [(y0, (p : Int), x2, x3, y4, y5)] 1 rfl _ 1 (by rfl) ((rdBox w' _ (y0, (p : Int), x2, x3, y4, y5)).gw (Gw.refl _).drew) (hown3.alloc _).drew (by omega) (by omega) (Gw.size (by (repeat (first | with_reducible exact Gw.refl _ | with_reducible assumption | ((with_reducible refine Gw.set ?_ ?_ _); rotate_left; (focus (first | (simp; done) | (simp; omega) | omega))) | with_reducible refine Gw.alloc ?_ _ | with_reducible refine Gw.drew ?_ | with_reducible refine Gw.drewN ?_ _ | (refine Gw.trans ?_ (by with_reducible assumption)))))) ?_; intro A9 c9 w9 hown9 hgg9 hgr9; have hgw9 : Gw w w9 := hgg9 w (by (repeat (first | with_reducible exact Gw.refl _ | with_reducible assumption | ((with_reducible refine Gw.set ?_ ?_ _); rotate_left; (focus (first | (simp; done) | (simp; omega) | omega))) | with_reducible refine Gw.alloc ?_ _ | with_reducible refine Gw.drew ?_ | with_reducible refine Gw.drewN ?_ _ | (refine Gw.trans ?_ (by with_reducible assumption))))) (Nat.le_refl _); clear hgg9 hgr9)
                        | fail)
                    rw [← hst.out] at hown9
                    have hsl : Hid ((sqTo l (p + 1)).length = acc.length + 1) := by unfold Hid; rw [hst.out]; simp
                    rw [← hsl.out] at hown9
                    have Hown9 := Lib.hid hown9
                    clear hown9
                    rw [← hsl.out]
                    obtain ⟨acc2, hacc2⟩ : ∃ a, Hid (a = sqTo l (p + 1)) := ⟨_, rfl⟩
                    rw [← hacc2.out]
                    rw [← hacc2.out] at Hown9 hsl
                    have hal := hsl.out
                    go_wp2_with fail
                    go_roundw
                    case rel => exact ⟨p + 1, acc2, A9, c9, by go_num, by omega, rfl, by omega, Hown9.out, hacc2, hgw9⟩
                    case measure => simp [intOf]; omega
              · have g1 : (xp == (p : Int)) = false := by simp [hxp]
                have hmj : m ≠ j := by
                  intro e
                  subst e
                  have := Hx.out
                  rw [Hy.out] at this
                  simp only [Option.some.injEq, Prod.mk.injEq] at this
                  exact hxp (this.2.1 ▸ hyp)
                have hbef2 : Hid (∀ i z, i < m + 1 → l[i]? = some z → z.2.1 ≠ (p : Int)) := by
                  unfold Hid
                  intro i z hi hz
                  by_cases e : i = m
                  · subst e; rw [Hx.out] at hz; cases hz; exact hxp
                  · exact hbef.out i z (by omega) hz
                clear hbef hxp hyp
                go_wp2_with fail
                go_round
                case rel => exact ⟨m + 1, by go_num, by omega, hbef2⟩
                case measure => simp [intOf]; omega
        · obtain rfl : p = 12 := by omega
          have hfin : Hid (squashF l = (acc, true)) := by unfold Hid; rw [squashF_good ⟨HE.out, hall.out⟩, hacc.out]
          go_wp2_with fail
          go_ret2
          exact ⟨B, d, ret_lb hfin.out, by rw [hfin.out]; exact hown, by (repeat (first | with_reducible exact Gw.refl _ | with_reducible assumption | ((with_reducible refine Gw.set ?_ ?_ _); rotate_left; (focus (first | (simp; done) | (simp; omega) | omega))) | with_reducible refine Gw.alloc ?_ _ | with_reducible refine Gw.drew ?_ | with_reducible refine Gw.drewN ?_ _ | (refine Gw.trans ?_ (by with_reducible assumption))))⟩
end Go.Proofs.Ytbfchmpigedkbaa
