/-
  Contracts of RowsOf: the program's.
-/
import Derived.Test.YtbhkcbfmlniamaaDoorGridC
namespace Go.Proofs.YtbhkcbfmlniamaaDoor
open Go.RowKit

/-- A new empty row is put on. -/
theorem rows_new {w wr w4 : World} {B A' : Option Addr} {d c' q : Nat} {sv acc' : List SV} {R S : List (List Int)} (h : OwnSS wr w.heap.size B d sv ((R ++ S).map flat)) (hgw : Gw w wr)
    (hgr : (wr.alloc (.cells #[] 3)).grownBy w4 (Value.slice B sv.length d).ownBlock) (hacc : acc' = sv ++ [(some ⟨wr.heap.size, 0, none⟩, 0, 0)])
    (hown : w4.ownsRow w.heap.size 27 1 (.slice A' acc'.length c') acc'.length (flat acc')) (hq : S.length = q) (hp : sv.length = R.length + q)
    (hgg : ∀ u, Gw u (wr.alloc (.cells #[] 3)) → u.heap.size ≤ w.heap.size → Gw u w4) :
    ∃ (g : Nat) (D : Option Addr) (d2 : Nat), A' = some ⟨g, 0, none⟩ ∧ w.heap.size ≤ g ∧ g < w4.heap.size ∧ Hid (acc'[R.length + q]? = some (D, 0, d2)) ∧ w4.cell? ⟨g, R.length + q, none⟩ = some (.slice D 0 d2) ∧ w4.frozen? ⟨g, R.length + q, none⟩ = false ∧
      w4.ownsRow w.heap.size 3 1 (.slice D 0 d2) 0 [] ∧ OwnSS w4 w.heap.size A' c' acc' ((R ++ (S ++ [[]])).map flat) ∧ Gw w w4 := by
  have hY : OwnSS w4 w.heap.size A' c' acc' ((R ++ (S ++ [[]])).map flat) := by
    have h1 := h.push (x := (some ⟨wr.heap.size, 0, none⟩, 0, 0)) (r := []) (Gw.alloc (Gw.refl _) _) hgr (by rw [← hacc]; exact hown) rfl (World.ownsRow_made wr #[] 0 (Nat.le_refl _) (by simp [maxLen]) (by simp)) hgw.size
    rw [hacc]
    simpa [flat] using h1
  have hat : ((R ++ (S ++ [[]])).map flat)[R.length + q]? = some ([] : List Value) := by
    rw [List.getElem?_map, List.getElem?_append_right (by omega), Nat.add_sub_cancel_left, List.getElem?_append_right (by omega), hq]
    simp [flat]
  obtain ⟨g, D, d2, hA, hg1, hg2, hsx, cl, fl, hin⟩ := hY.at hat
  exact ⟨g, D, d2, hA, hg1, hg2, hsx, cl, fl, hin, hY, hgg w (hgw.alloc _) (Nat.le_refl _)⟩

set_option maxHeartbeats 4000000 in
set_option maxRecDepth 100000 in
theorem i_RowsOf (A : Option Addr) (c : Nat) (l : List Sec) (wd : Int) (w : World) (hl : l.length ≤ 1048576) (hz : ∀ x ∈ l, x.1.size ≤ 9223372036854775807) (hA : Rd w A l) (hlc : l.length ≤ c) :
    Calls Tryd.prog 13 #[.slice A l.length c, .int .i64 wd] w (RowsQ l wd w) := by
  obtain ⟨i0, hi, hz0, hz1, hz2⟩ := info_parts infoIntS
  obtain ⟨i1, hi', hz0', hz1', hz2'⟩ := info_parts infoInt
  have Hz := Lib.hid hz
  clear hz
  go_enter Tryd.func13, Tryd.ntmps13
  go_wp2_with fail
  refine (i_AreSections _ _ _ _ hl Hz.out hA hlc).mono ?_
  rintro _ w1 (⟨hp, rfl, hb1⟩ | ⟨hp, rfl, hb1⟩)
  case inr =>
    have hno := Lib.hid (show rowsF l wd = ([], false) by unfold rowsF; rw [if_neg (fun h => hp h.1)])
    clear hp
    go_wp2_with fail
    go_ret2
    exact ⟨none, 0, [], ret_vb (by rw [hno.out]), by rw [hno.out]; exact OwnSS.nil _ _, hb1⟩
  have HP := Lib.hid hp
  clear hp
  go_wp2_with (go_at_call 38; refine (i_within _ _ _ _).mono ?_; rintro e w' (⟨hp, rfl, rfl⟩ | ⟨hp, rfl, rfl⟩))
  case' _ => skip
  rotate_left
  · have hno := Lib.hid (show rowsF l wd = ([], false) by unfold rowsF; rw [if_neg (fun h => hp h.2)])
    go_ret2
    exact ⟨none, 0, [], ret_vb (by rw [hno.out]), by rw [hno.out]; exact OwnSS.nil _ _, hb1⟩
  obtain ⟨W, rfl⟩ : ∃ W : Nat, wd = W := ⟨wd.toNat, by have := hp.1; omega⟩
  have hW1 : 1 ≤ W := by have := hp.1; omega
  have hW2 : W ≤ 12 := by have := hp.2; omega
  have hyes := Lib.hid (show rowsF l (W : Int) = (rowsTo l W l.length, true) by unfold rowsF; rw [if_pos ⟨HP.out, hp⟩]; simp)
  have h10 := HP.out.2.2.1.2
  clear hp
  go_loopw [6, 7, 23] (fun o p q wr => ∃ (k : Nat) (B : Option Addr) (d : Nat) (sv : List SV) (F : Int), q = .int .i64 k ∧ k ≤ l.length ∧ p = .int .i64 F ∧ Hid (F = ssum (l.take k)) ∧ o = .slice B sv.length d ∧ sv.length ≤ 60 * k ∧ OwnSS wr w.heap.size B d sv ((rowsTo l W k).map flat) ∧ Gw w wr) (fun _ _ q _ => l.length - (intOf q).toNat)
  case atStart => exact ⟨0, some ⟨w1.heap.size, 0, none⟩, 0, [], 0, by go_num, Nat.zero_le _, rfl, by simp [Hid, ssum], rfl, by simp, OwnSS.made (World.ownsRow_made w1 #[] 0 hb1.size (by simp [maxLen]) (by simp)), by (repeat (first | with_reducible exact Gw.refl _ | with_reducible assumption | ((with_reducible refine Gw.set ?_ ?_ _); rotate_left; (focus (first | (simp; done) | (simp; omega) | omega))) | with_reducible refine Gw.alloc ?_ _ | with_reducible refine Gw.drew ?_ | with_reducible refine Gw.drewN ?_ _ | (refine Gw.trans ?_ (by with_reducible assumption))))⟩
  case round =>
    obtain ⟨k, B, d, sv, F, rfl, hk, rfl, hF, rfl, hsv, hown, hgw⟩ := hrel
    by_cases hlt : k < l.length
    · obtain ⟨x, hx⟩ := get_of_lt hlt
      have hx1 := HP.out.size x (mem_of_get hx)
      have hbd := take_bd HP.out.size k
      rw [← hF.out] at hbd
      have hto := Lib.hid (rowsTo_succ (w := W) hx)
      have hF2 : Hid (F + x.2.1 = ssum (l.take (k + 1))) := by unfold Hid; rw [take_succ_of hx, ssum_snoc, hF.out]
      obtain ⟨b, off, rfl, hb, c0, c1, c2⟩ := (hA.gw hgw).getS hx
      obtain ⟨x1, x2, x3⟩ := x
      dsimp only at hx1 hto hF2 c0 c1 c2
      obtain ⟨n, rfl⟩ : ∃ n : Nat, x2 = n := ⟨x2.toNat, by omega⟩
      rw [← hF.out] at hto
      simp only [Int.toNat_natCast] at hto
      clear hx
      go_wp2_with fail
      go_loopw [6, 7, 29] (fun o p q wr2 => ∃ (j : Nat) (B : Option Addr) (d : Nat) (sv : List SV), q = .int .i64 j ∧ j ≤ n ∧ p = .int .i64 (F + (j : Int)) ∧ o = .slice B sv.length d ∧ sv.length ≤ 60 * k + j ∧ OwnSS wr2 w.heap.size B d sv ((rowsTo l W k ++ rowsS F W j).map flat) ∧ Gw w wr2) (fun _ _ q _ => n - (intOf q).toNat)
      case atStart => exact ⟨0, B, d, sv, by go_num, Nat.zero_le _, by go_num, rfl, by omega, by simpa [rowsS, nch_zero W hW1] using hown.gw (by (repeat (first | with_reducible exact Gw.refl _ | with_reducible assumption | ((with_reducible refine Gw.set ?_ ?_ _); rotate_left; (focus (first | (simp; done) | (simp; omega) | omega))) | with_reducible refine Gw.alloc ?_ _ | with_reducible refine Gw.drew ?_ | with_reducible refine Gw.drewN ?_ _ | (refine Gw.trans ?_ (by with_reducible assumption))))), by (repeat (first | with_reducible exact Gw.refl _ | with_reducible assumption | ((with_reducible refine Gw.set ?_ ?_ _); rotate_left; (focus (first | (simp; done) | (simp; omega) | omega))) | with_reducible refine Gw.alloc ?_ _ | with_reducible refine Gw.drew ?_ | with_reducible refine Gw.drewN ?_ _ | (refine Gw.trans ?_ (by with_reducible assumption))))⟩
      case round =>
        obtain ⟨j, B, d, sv, rfl, hj, rfl, rfl, hsv2, hown2, hgw2⟩ := hrel
        clear hown
        by_cases hjl : j < n
        · obtain ⟨q, hYl, last, hlast, hlw, hstep⟩ := rowsS_step F (w := W) (k := j) hW1
          have hrlen : ((rowsTo l W k ++ rowsS F W j).map flat).length = sv.length := hown2.len.symm
          by_cases h0 : j % W = 0
          · have hYe : rowsY F W j = rowsS F W j ++ [[]] := by unfold rowsY; rw [if_pos h0]
            have hb0 : ((j : Int) % (W : Int) == 0) = true := by
              have : (j : Int) % (W : Int) = 0 := by omega
              simp [this]
            rw [hYe] at hYl hlast hstep
            have hql : (rowsS F W j).length = q := by simpa using hYl
            obtain rfl : last = [] := by
              rw [List.getElem?_append_right (by omega), hql] at hlast
              simpa using hlast.symm
            have hp1 : sv.length = (rowsTo l W k).length + q := by rw [← hrlen]; simp [hql]
            have Hst := Lib.hid hstep
            have hHz := hgw2.size
            clear hstep hlast hrlen
            go_wp2_with (first | (at_builtin; (refine wpList_push2 (α := SV) rfl (.tmp 36) (.tmp 38) 35 rfl w.heap.size 27 i0 _ 24 Tryd.underlying35 hi hz0 hz1 hz2 rfl (by omega) sv B d rfl (_ : World) (some ⟨wr.heap.size, 0, none⟩, 0, 0) rfl (wr.heap.size + 1) (by simp) rfl (own_gw hown2.outer (Gw.alloc (Gw.refl _) _)) (by omega) (by simp; omega) ?_); intro acc' A' c' w4 hacc hl1 hl2 hown' hgr hblk hgg; obtain ⟨g, D, d2, rfl, hg1, hg2, Hsx, cl, fl, hin, hY, hgw4⟩ := rows_new hown2 hgw2 hgr hacc.out hown' hql hp1 hgg; have hai : acc'.length - 1 = (rowsTo l W k).length + q := (by omega); rw [← hai] at cl fl Hsx; have Hai := Lib.hid hai; clear hai) | (at_builtin; go_loud (refine wpList_push2 (α := Int) rfl (.tmp 48) (.tmp 50) 27 rfl w.heap.size 3 i1 _ 8 Tryd.underlying27 hi' hz0' hz1' hz2' rfl (by omega) [] D d2 rfl _ (F + (j : Int)) rfl _ rfl rfl hin (by simp) (by have := hgw4.size; omega) ?_); intro acc2 A2 c2 w5 hacc2 hl3 hl4 hown5 hgr5 hblk5 hgg5; have ho5 := hY.beside Hsx.out hgr5; have fz5 := World.ownsRow.frozenAt ho5 (acc'.length - 1); have ce5 := own_cell ho5 (j := acc'.length - 1) (by omega); obtain ⟨u5, ce5⟩ := ce5))
            have hfa : (flat acc2).length = acc2.length := by rw [flat_len]; exact Nat.mul_one _
            have hgrw := hY.grow (x' := (A2, acc2.length, c2)) (r' := flat acc2) Hsx.out hgr5 hfa.symm (by rw [hfa]; exact hown5) (hblk5.imp id fun h => ⟨_, h, by omega⟩)
            have hgg6 := hgg5 w hgw4 (Nat.le_refl _)
            go_roundw
            case rel =>
              have hrows : ((rowsTo l W k ++ (rowsS F W j ++ [[]])).map flat).set (acc'.length - 1) (flat acc2) = (rowsTo l W k ++ rowsS F W (j + 1)).map flat := by
                rw [hacc2.out, Hst.out, ← List.map_set, Hai.out, List.set_append_right _ _ (by omega), Nat.add_sub_cancel_left]
              rw [hrows] at hgrw
              exact ⟨j + 1, _, c', acc'.set (acc'.length - 1) (A2, acc2.length, c2), by go_num, by omega, by go_num, by rw [List.length_set], by rw [List.length_set]; omega, hgrw.1, Gw.set hgg6 (by show _ ≤ g; omega) _⟩
            case measure => simp [intOf]; omega
          · have hYe : rowsY F W j = rowsS F W j := by unfold rowsY; rw [if_neg h0]
            have hb0 : ((j : Int) % (W : Int) == 0) = false := by
              have : ¬((j : Int) % (W : Int) = 0) := by omega
              simp [this]
            rw [hYe] at hYl hlast hstep
            have hat : (((rowsTo l W k ++ rowsS F W j).map flat))[(rowsTo l W k).length + q]? = some (flat last) := by
              rw [List.getElem?_map, List.getElem?_append_right (by omega), Nat.add_sub_cancel_left, hlast]; rfl
            obtain ⟨g, D, d2, rfl, hg1, hg2, hsx, cl, fl, hin⟩ := hown2.at hat
            have hfl : (flat last).length = last.length := by rw [flat_len]; exact Nat.mul_one _
            rw [hfl] at hsx cl hin
            clear hfl
            have hll : last.length ≤ 1048576 := by omega
            have hp1 : sv.length = (rowsTo l W k).length + q + 1 := by rw [← hrlen]; simp [hYl]; omega
            have Hst := Lib.hid hstep
            have Hsx := Lib.hid hsx
            clear hstep hsx hat hlast hrlen
            go_wp2_with (at_builtin; go_loud (refine wpList_push2 (α := Int) rfl (.tmp 48) (.tmp 50) 27 rfl w.heap.size 3 i1 _ 8 Tryd.underlying27 hi' hz0' hz1' hz2' rfl (by omega) last D d2 rfl _ (F + (j : Int)) rfl _ rfl rfl hin hll (by have := hgw2.size; omega) ?_); intro acc2 A2 c2 w5 hacc2 hl3 hl4 hown5 hgr5 hblk5 hgg5; have ho5 := hown2.beside Hsx.out hgr5; have fz5 := World.ownsRow.frozenAt ho5 ((rowsTo l W k).length + q); have ce5 := own_cell ho5 (j := (rowsTo l W k).length + q) (by omega); obtain ⟨u5, ce5⟩ := ce5)
            have hfa : (flat acc2).length = acc2.length := by rw [flat_len]; exact Nat.mul_one _
            have hgrw := hown2.grow (x' := (A2, acc2.length, c2)) (r' := flat acc2) Hsx.out hgr5 hfa.symm (by rw [hfa]; exact hown5) (hblk5.imp id fun h => ⟨_, h, by omega⟩)
            have hgg6 := hgg5 w hgw2 (Nat.le_refl _)
            go_roundw
            case rel =>
              have hrows : ((rowsTo l W k ++ rowsS F W j).map flat).set ((rowsTo l W k).length + q) (flat acc2) = (rowsTo l W k ++ rowsS F W (j + 1)).map flat := by
                rw [hacc2.out, Hst.out, ← List.map_set, List.set_append_right _ _ (by omega), Nat.add_sub_cancel_left]
              rw [hrows] at hgrw
              exact ⟨j + 1, _, d, sv.set ((rowsTo l W k).length + q) (A2, acc2.length, c2), by go_num, by omega, by go_num, by rw [List.length_set, hp1], by rw [List.length_set]; omega, hgrw.1, Gw.set hgg6 (by show _ ≤ g; omega) _⟩
            case measure => simp [intOf]; omega
        · obtain rfl : j = n := by omega
          go_wp2_with fail
          go_roundw
          case rel => exact ⟨k + 1, B, d, sv, F + (j : Int), by go_num, by omega, rfl, hF2, rfl, by omega, by rw [hto.out]; exact hown2, hgw2⟩
          case measure => simp [intOf]; omega
    · obtain rfl : k = l.length := by omega
      go_wp2_with fail
      go_ret2
      exact ⟨B, d, sv, ret_vb (by rw [hyes.out]), by rw [hyes.out]; exact hown, hgw⟩
end Go.Proofs.YtbhkcbfmlniamaaDoor
