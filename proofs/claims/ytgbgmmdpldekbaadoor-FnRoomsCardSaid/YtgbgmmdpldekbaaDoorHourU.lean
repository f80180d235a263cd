/-
  The windows of the reference's table.
-/
import Derived.Test.YtgbgmmdpldekbaaDoorHourT
import Derived.Test.YtgbgmmdpldekbaaDoorSetW
namespace Go.Proofs.YtgbgmmdpldekbaaDoor
open Go.RowKit

theorem wstep_nil {p h : Nat} : wstep p h true [] = [((p : Int), (h : Int), (h : Int) + 1)] := by simp [wstep]
theorem wstep_other {p h : Nat} {out : List W3} {y : W3} (hn : ¬(y.1 = (p : Int) ∧ y.2.2 = (h : Int))) : wstep p h true (out ++ [y]) = out ++ [y] ++ [((p : Int), (h : Int), (h : Int) + 1)] := by
  unfold wstep
  rw [if_pos rfl, List.getLast?_concat]
  dsimp only
  rw [if_neg hn]

set_option maxHeartbeats 4000000 in
set_option maxRecDepth 20000 in
theorem s_wnOf (base g : Nat) (B : Nat → Nat) (T : Nat → Nat → Bool) (w : World) (hT : TabK w base g B T 10) :
    Calls Tryd.prog 76 #[.slice (some ⟨g, 0, none⟩) 10 10] w fun e w' => ∃ A c, e = .returned (.slice A (wtab T 10).length c) ∧
      w'.ownsRow w.heap.size 68 3 (.slice A (wtab T 10).length c) (wtab T 10).length (flat (wtab T 10)) ∧ Gw w w' := by
  obtain ⟨i0, hi, hz0, hz1, hz2⟩ := info_parts infoWindow
  have HT := Lib.hid hT
  clear hT
  go_enter Tryd.func76, Tryd.ntmps76
  go_wp2_with fail
  go_loopw [3, 4, 5, 6, 7, 8, 11, 18] (fun o _ _ _ _ _ q _ wr => ∃ (P : Nat) (acc : List W3) (D : Option Addr) (d : Nat), q = .int .i64 P ∧ P ≤ 10 ∧ o = .slice D acc.length d ∧ Hid (acc = wtab T P) ∧ wr.ownsRow w.heap.size 68 3 (.slice D acc.length d) acc.length (flat acc) ∧ Gw w wr) (fun _ _ _ _ _ _ q _ _ => 10 - (intOf q).toNat)
  case atStart => exact ⟨0, [], none, 0, by go_num, by omega, rfl, rfl, World.ownsRow_nil _ _ _ _, Gw.refl _⟩
  case round =>
    obtain ⟨P, acc, D, d, rfl, hP, rfl, hacc, hown, hgw⟩ := hrel
    by_cases hlt : P < 10
    · have hpz : (P : Int) < 10 := by omega
      have hcg := (HT.out.gw hgw).cell hlt hlt
      go_wp2_with fail
      go_loopw [3, 6, 7, 8, 18] (fun o _ _ _ q wr => ∃ (h : Nat) (acc : List W3) (D : Option Addr) (d : Nat), q = .int .i64 h ∧ h ≤ 168 ∧ o = .slice D acc.length d ∧ Hid (acc = wrow T P h (wtab T P)) ∧ wr.ownsRow w.heap.size 68 3 (.slice D acc.length d) acc.length (flat acc) ∧ Gw w wr) (fun _ _ _ _ q _ => 168 - (intOf q).toNat)
      case atStart => exact ⟨0, acc, D, d, by go_num, by omega, rfl, hacc, hown, hgw⟩
      case round =>
        clear hown hgw hacc hcg
        obtain ⟨h, acc, D, d, rfl, hh, rfl, hacc, hown, hgw⟩ := hrel
        obtain ⟨wo, rfl⟩ : ∃ wo : World, wo = wr := ⟨_, rfl⟩
        have hgz := hgw.size
        have hlen : acc.length ≤ 1680 := by
          have h1 := wrow_len T P (wtab T P) h
          have h2 := wtab_len T P
          rw [hacc.out]
          omega
        by_cases hlt2 : h < 168
        · have hhz : (h : Int) < 168 := by omega
          have hcell := ((HT.out.gw hgw).row hlt).cell hlt2
          obtain ⟨bk, hbk⟩ : ∃ b, Hid (T P h = b) := ⟨_, rfl⟩
          rw [hbk.out] at hcell
          cases bk with
          | false =>
            have hnx : Hid (acc = wrow T P (h + 1) (wtab T P)) := by unfold Hid; rw [wrow_off hbk.out]; exact hacc.out
            go_wp2_with fail
            go_roundw
            case rel => exact ⟨h + 1, acc, D, d, by go_num, by omega, rfl, hnx, hown, hgw⟩
            case measure => simp [intOf]; omega
          | true =>
            have hstep : Hid (wrow T P (h + 1) (wtab T P) = wstep P h true acc) := by
              unfold Hid
              show wstep P h (T P h) (wrow T P h (wtab T P)) = _
              rw [hbk.out, ← hacc.out]
            rcases List.eq_nil_or_concat acc with hnil | ⟨l', y, hcat⟩
            · subst hnil
              have hnx : Hid ([] ++ [((P : Int), (h : Int), (h : Int) + 1)] = wrow T P (h + 1) (wtab T P)) := by unfold Hid; rw [hstep.out, wstep_nil]; rfl
              go_wp2_with (at_builtin; refine wpList_push (α := W3) rfl (.tmp 58) (.tmp 64) 23 rfl w.heap.size 68 i0 _ 24 Tryd.underlying23 hi hz0 hz1 hz2 rfl (by omega) [] D d rfl wo ((P : Int), (h : Int), (h : Int) + 1) rfl wo.heap.size rfl rfl hown (by simp) hgz ?_; intro acc' A' c'' w9 hacc' hl1 hl2 hown' _ hgg)
              go_roundw
              case rel => exact ⟨h + 1, acc', A', c'', by go_num, by omega, rfl, by unfold Hid; rw [hacc'.out]; exact hnx.out, hown', hgg w hgw (Nat.le_refl _)⟩
              case measure => simp [intOf]; omega
            · rw [List.concat_eq_append] at hcat
              obtain ⟨m, hm⟩ : ∃ m : Nat, m = l'.length := ⟨_, rfl⟩
              have hml : acc.length = m + 1 := by rw [hcat, hm]; simp
              have hym : Hid (acc[m]? = some y) := by unfold Hid; rw [hcat, hm]; simp
              have Hcat := Lib.hid hcat
              have Hml := Lib.hid hml
              obtain ⟨gg, hD, hg1, hg2⟩ := own_addr hown (by omega)
              subst hD
              rw [hml] at hown
              obtain ⟨y1, y2, y3⟩ := y
              obtain ⟨e0, e1, e2⟩ := own_cellsW hml hown hym.out
              have hfz := World.ownsRow.frozenAt hown (m * 3 + 2)
              dsimp only at e0 e1 e2
              have hmz : m < 1680 := by omega
              clear hcat hm hml hlen
              rw [Hml.out]
              by_cases hy : y1 = (P : Int) ∧ y3 = (h : Int)
              · obtain ⟨rfl, rfl⟩ := hy
                have hset : Hid (acc.set m ((P : Int), y2, (h : Int) + 1) = wrow T P (h + 1) (wtab T P)) := by
                  unfold Hid
                  rw [hstep.out, Hcat.out, wstep_last]
                  have hm : m = l'.length := by have := Hml.out; rw [Hcat.out] at this; simp at this; omega
                  rw [hm]
                  simp
                have ho2 := Lib.hid (own_setW hown hym.out ((h : Int) + 1))
                have hl2 : Hid ((acc.set m ((P : Int), y2, (h : Int) + 1)).length = m + 1) := by unfold Hid; rw [List.length_set, Hml.out]
                clear hown
                go_wp2_with fail
                go_roundw
                case rel => exact ⟨h + 1, acc.set m ((P : Int), y2, (h : Int) + 1), some ⟨gg, 0, none⟩, d, by go_num, by omega, by rw [hl2.out], hset, by rw [hl2.out]; exact ho2.out, hgw.set hg1 _⟩
                case measure => simp [intOf]; omega
              · have hnx : Hid (acc ++ [((P : Int), (h : Int), (h : Int) + 1)] = wrow T P (h + 1) (wtab T P)) := by unfold Hid; rw [hstep.out, Hcat.out, wstep_other hy]
                by_cases hy1 : y1 = (P : Int)
                · have hy3 : ¬y3 = (h : Int) := fun e => hy ⟨hy1, e⟩
                  subst hy1
                  have q1 : (y3 == (h : Int)) = false := by simp [hy3]
                  clear hy
                  skip
                  go_wp2_with (at_builtin; go_loud (refine wpList_push (α := W3) rfl (.tmp 58) (.tmp 64) 23 rfl w.heap.size 68 i0 _ 24 Tryd.underlying23 hi hz0 hz1 hz2 rfl (by omega) acc (some ⟨gg, 0, none⟩) d (by rw [Hml.out]; rfl) wo ((P : Int), (h : Int), (h : Int) + 1) rfl wo.heap.size rfl rfl (by rw [Hml.out]; exact hown) (by rw [Hml.out]; omega) hgz ?_); intro acc' A' c'' w9 hacc' hl1 hl2 hown' _ hgg)
                  go_roundw
                  case rel => exact ⟨h + 1, acc', A', c'', by go_num, by omega, rfl, by unfold Hid; rw [hacc'.out]; exact hnx.out, hown', hgg w hgw (Nat.le_refl _)⟩
                  case measure => simp [intOf]; omega
                · have q1 : (y1 == (P : Int)) = false := by simp [hy1]
                  clear hy
                  skip
                  go_wp2_with (at_builtin; go_loud (refine wpList_push (α := W3) rfl (.tmp 58) (.tmp 64) 23 rfl w.heap.size 68 i0 _ 24 Tryd.underlying23 hi hz0 hz1 hz2 rfl (by omega) acc (some ⟨gg, 0, none⟩) d (by rw [Hml.out]; rfl) wo ((P : Int), (h : Int), (h : Int) + 1) rfl wo.heap.size rfl rfl (by rw [Hml.out]; exact hown) (by rw [Hml.out]; omega) hgz ?_); intro acc' A' c'' w9 hacc' hl1 hl2 hown' _ hgg)
                  go_roundw
                  case rel => exact ⟨h + 1, acc', A', c'', by go_num, by omega, rfl, by unfold Hid; rw [hacc'.out]; exact hnx.out, hown', hgg w hgw (Nat.le_refl _)⟩
                  case measure => simp [intOf]; omega
        · obtain rfl : h = 168 := by omega
          go_wp2_with fail
          go_roundw
          case rel => exact ⟨P + 1, acc, D, d, by go_num, by omega, rfl, hacc, hown, hgw⟩
          case measure => simp [intOf]; omega
    · obtain rfl : P = 10 := by omega
      have ha := hacc.out
      subst ha
      go_wp2_with fail
      go_ret
      exact ⟨D, d, rfl, hown, hgw⟩
end Go.Proofs.YtgbgmmdpldekbaaDoor
