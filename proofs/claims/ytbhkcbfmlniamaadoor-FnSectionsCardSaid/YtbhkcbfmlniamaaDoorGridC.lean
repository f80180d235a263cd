/-
  Contracts of RowsOf: the reference's.
-/
import Derived.Test.YtbhkcbfmlniamaaDoorGridP
import Derived.Test.YtbhkcbfmlniamaaDoorAppend
import Derived.Test.YtbhkcbfmlniamaaDoorBase
namespace Go.Proofs.YtbhkcbfmlniamaaDoor
open Go.RowKit

theorem infoIntS : (Tryd.prog.info? 27).map (fun i => (i.zero, i.size, i.bytes)) = some (some (.slice none 0 0), 1, 24) := by kernel_rfl

set_option maxHeartbeats 1000000 in
theorem s_l1Own (B : Option Addr) (cy n : Nat) (m : List Int) (w : World) (hn : m.length = n) (hl : n ≤ 1048576) (hB : Rd w B m) :
    Calls Tryd.prog 42 #[.slice B n cy] w fun e w' => ∃ A c, e = .returned (.slice A n c) ∧ w'.ownsRow w.heap.size 3 1 (.slice A n c) n (flat m) ∧ Gw w w' := by
  obtain ⟨i0, hi, hz0, hz1, hz2⟩ := info_parts infoInt
  have HB := Lib.hid hB
  have Hn := Lib.hid hn
  clear hB hn
  go_enter Tryd.func42, Tryd.ntmps42
  go_wp2_with ((at_builtin; refine wpList_catAny (α := Int) rfl (.tmp 3) (.tmp 4) 27 rfl w.heap.size 3 i0 _ 8 Tryd.underlying27 hi hz0 hz1 hz2 rfl (by omega) [] (some ⟨w.heap.size, 0, none⟩) 0 rfl m n Hn.out B cy rfl (HB.out.gw (by (repeat (first | with_reducible exact Gw.refl _ | with_reducible assumption | ((with_reducible refine Gw.set ?_ ?_ _); rotate_left; (focus (first | (simp; done) | (simp; omega) | omega))) | with_reducible refine Gw.alloc ?_ _ | with_reducible refine Gw.drew ?_ | with_reducible refine Gw.drewN ?_ _ | (refine Gw.trans ?_ (by with_reducible assumption)))))) (World.ownsRow_made w #[] 0 (Nat.le_refl _) (by simp [maxLen]) (by simp)) (by simp) (by omega) (by simp) ?_; intro acc' A' c' w4 hacc' hl1 hown hgg))
  go_ret
  have hl2 : acc'.length = n := by simpa using hl1
  try rw [hl2] at hown
  have he : acc' = m := by simpa using hacc'.out
  rw [he] at hown
  exact ⟨A', c', rfl, hown, hgg w (by (repeat (first | with_reducible exact Gw.refl _ | with_reducible assumption | ((with_reducible refine Gw.set ?_ ?_ _); rotate_left; (focus (first | (simp; done) | (simp; omega) | omega))) | with_reducible refine Gw.alloc ?_ _ | with_reducible refine Gw.drew ?_ | with_reducible refine Gw.drewN ?_ _ | (refine Gw.trans ?_ (by with_reducible assumption))))) (Nat.le_refl _)⟩

theorem rowsTo_len {l : List Sec} {w : Nat} (hw : 1 ≤ w) (h : ∀ x ∈ l, 1 ≤ x.2.1 ∧ x.2.1 ≤ 60) : ∀ k, k ≤ l.length → (rowsTo l w k).length ≤ 60 * k
  | 0, _ => by simp [rowsTo]
  | k + 1, hk => by
    obtain ⟨x, hx⟩ := get_of_lt (show k < l.length by omega)
    have h1 := rowsTo_len hw h k (by omega)
    have h2 := h x (mem_of_get hx)
    have h3 := nch_le (w := w) (n := x.2.1.toNat) hw
    rw [rowsTo_succ hx, List.length_append, rowsS_len]
    omega
theorem fromN_take (F : Int) (n q : Nat) : (fromN F n).take q = fromN F (min q n) := by
  unfold fromN
  rw [← List.map_take, List.take_range]
theorem fromN_drop (F : Int) (n q : Nat) : (fromN F n).drop q = fromN (F + (q : Int)) (n - q) := by
  apply List.ext_getElem?
  intro i
  rw [List.getElem?_drop]
  unfold fromN
  by_cases h : q + i < n
  · simp [h, show i < n - q by omega]; omega
  · simp [show n ≤ q + i by omega, show n - q ≤ i by omega]
open Classical in
noncomputable def rowsF (l : List Sec) (wd : Int) : List (List Int) × Bool := if SecsP l ∧ 1 ≤ wd ∧ wd ≤ 12 then (rowsTo l wd.toNat l.length, true) else ([], false)
def slLen : Value → Nat
  | .slice _ n _ => n
  | _ => 0
/-- What RowsOf promises. -/
def RowsQ (l : List Sec) (wd : Int) (w : World) (e : Ending) (w' : World) : Prop :=
  ∃ (A : Option Addr) (c : Nat) (sv : List SV), e = .returned (.tuple #[.slice A sv.length c, .bool (rowsF l wd).2]) ∧ OwnSS w' w.heap.size A c sv ((rowsF l wd).1.map flat) ∧ Gw w w'
theorem ret_vb {A : Option Addr} {n c : Nat} {b b' : Bool} (h : b = b') : Ending.returned (.tuple #[.slice A n c, .bool b]) = .returned (.tuple #[.slice A n c, .bool b']) := by rw [h]

set_option maxHeartbeats 4000000 in
set_option maxRecDepth 100000 in
theorem s_RowsOf (A : Option Addr) (c : Nat) (l : List Sec) (wd : Int) (w : World) (hl : l.length ≤ 1048576) (hz : ∀ x ∈ l, x.1.size ≤ 9223372036854775807) (hA : Rd w A l) (hlc : l.length ≤ c) :
    Calls Tryd.prog 14 #[.slice A l.length c, .int .i64 wd] w (RowsQ l wd w) := by
  obtain ⟨i0, hi, hz0, hz1, hz2⟩ := info_parts infoIntS
  have Hz := Lib.hid hz
  clear hz
  go_enter Tryd.func14, Tryd.ntmps14
  go_wp2_with fail
  refine (s_seGood _ _ _ _ hl Hz.out hA).mono ?_
  rintro _ w1 (⟨hp, rfl, hb1⟩ | ⟨hp, rfl, hb1⟩)
  case inr =>
    have hno := Lib.hid (show rowsF l wd = ([], false) by unfold rowsF; rw [if_neg (fun h => hp h.1)])
    clear hp
    go_wp2_with fail
    go_ret2
    exact ⟨none, 0, [], ret_vb (by rw [hno.out]), by rw [hno.out]; exact OwnSS.nil _ _, hb1⟩
  have HP := Lib.hid hp
  clear hp
  go_wp2_with (go_at_call 40; refine (s_l1In _ _ _ _).mono ?_; rintro e w' (⟨hp, rfl, rfl⟩ | ⟨hp, rfl, rfl⟩))
  case' _ => skip
  rotate_left
  · have hno := Lib.hid (show rowsF l wd = ([], false) by unfold rowsF; rw [if_neg (fun h => hp h.2)])
    go_ret2
    exact ⟨none, 0, [], ret_vb (by rw [hno.out]), by rw [hno.out]; exact OwnSS.nil _ _, hb1⟩
  obtain ⟨W, rfl⟩ : ∃ W : Nat, wd = W := ⟨wd.toNat, by have := hp.1; omega⟩
  have hW1 : 1 ≤ W := by have := hp.1; omega
  have hW2 : W ≤ 12 := by have := hp.2; omega
  have hyes := Lib.hid (show rowsF l (W : Int) = (rowsTo l W l.length, true) by unfold rowsF; rw [if_pos ⟨HP.out, hp⟩]; simp)
  have h10 := HP.out.2.2.1.2
  clear hp
  go_loopw [6, 20] (fun o q wr => ∃ (k : Nat) (B : Option Addr) (d : Nat) (sv : List SV), q = .int .i64 k ∧ k ≤ l.length ∧ o = .slice B sv.length d ∧ sv.length ≤ 60 * k ∧ OwnSS wr w.heap.size B d sv ((rowsTo l W k).map flat) ∧ Gw w wr) (fun _ q _ => l.length - (intOf q).toNat)
  case atStart => exact ⟨0, none, 0, [], by go_num, Nat.zero_le _, rfl, by simp, OwnSS.nil _ _, hb1⟩
  case round =>
    obtain ⟨k, B, d, sv, rfl, hk, rfl, hsv, hown, hgw⟩ := hrel
    by_cases hlt : k < l.length
    · obtain ⟨x, hx⟩ := get_of_lt hlt
      have hx1 := HP.out.size x (mem_of_get hx)
      have hmb := Lib.hid (memb_at hx)
      have hto := Lib.hid (rowsTo_succ (w := W) hx)
      have Hx := Lib.hid hx
      clear hx
      go_wp2_with fail
      refine (s_seMembers _ _ _ _ _ _ h10 HP.out.size (hA.gw hgw) hlc Hx.out).mono ?_
      rintro _ w2 ⟨M, cm, rfl, om, hb2⟩
      rw [hmb.out] at om ⊢
      go_wp2_with fail
      generalize hn : x.2.1.toNat = n at *
      have hn60 : n ≤ 60 := by omega
      generalize hF : ssum (l.take k) = F at *
      clear hn hF hmb
      have hfl := fromN_len F n
      go_loopw [6, 8] (fun o mm wr2 => ∃ (j : Nat) (B : Option Addr) (d : Nat) (sv : List SV) (M : Option Addr) (cm : Nat) (m : List Int), o = .slice B sv.length d ∧ mm = .slice M m.length cm ∧ m.length ≤ cm ∧ m.length ≤ 60 ∧ Hid (m = fromN (F + ((j * W : Nat) : Int)) (n - j * W)) ∧ Hid (m.length = n - j * W) ∧ j ≤ nch W n ∧ Rd wr2 M m ∧ (∀ b off, M = some ⟨b, off, none⟩ → (Value.slice B sv.length d).ownBlock ≠ some b) ∧ sv.length ≤ 60 * k + j ∧ OwnSS wr2 w.heap.size B d sv ((rowsTo l W k ++ (List.range j).map (rowAt F W n)).map flat) ∧ Gw w wr2) (fun _ mm _ => slLen mm)
      case atStart =>
        refine ⟨0, B, d, sv, M, cm, fromN F n, rfl, rfl, ?_, by omega, by simp [Hid], by simp [Hid, hfl], Nat.zero_le _, own_rd om, ?_, by omega, by simpa using hown.gw hb2, by (repeat (first | with_reducible exact Gw.refl _ | with_reducible assumption | ((with_reducible refine Gw.set ?_ ?_ _); rotate_left; (focus (first | (simp; done) | (simp; omega) | omega))) | with_reducible refine Gw.alloc ?_ _ | with_reducible refine Gw.drew ?_ | with_reducible refine Gw.drewN ?_ _ | (refine Gw.trans ?_ (by with_reducible assumption))))⟩
        rotate_left
        · intro b' off' hM' hB'
          have h1 := (om.lt b' (by rw [hM']; rfl)).1
          have h2 := (hown.outer.lt b' hB').2
          omega
        obtain ⟨A1, c1, he, hle, _⟩ := own_form om
        simp only [Value.slice.injEq, true_and] at he
        omega
      case round =>
        obtain ⟨j, B, d, sv, M, cm, m, rfl, rfl, hmc, hm60, hm, hml, hj, hM, hMB, hsv2, hown2, hgw2⟩ := hrel
        clear hown om
        by_cases hpos : 0 < m.length
        · obtain ⟨q, hq⟩ : ∃ q, q = min W m.length := ⟨_, rfl⟩
          have hq1 : 1 ≤ q := by omega
          have hq2 : q ≤ m.length := by omega
          have hq3 : q ≤ cm := by omega
          have hqi := Lib.hid (show min (W : Int) (m.length : Int) = (q : Int) by omega)
          have hjw : j * W < n := by have := hml.out; omega
          have hj1 : Hid (j + 1 ≤ nch W n) := (nch_iff hW1).2 hjw
          have hrow : Hid (m.take q = rowAt F W n j) := by
            unfold Hid rowAt
            rw [hm.out, fromN_take, hq, hml.out]
            congr 1
            omega
          have hrest : Hid (m.drop q = fromN (F + (((j + 1) * W : Nat) : Int)) (n - (j + 1) * W)) := by
            have hs : (j + 1) * W = j * W + W := Nat.succ_mul _ _
            unfold Hid
            rw [hm.out, fromN_drop, hs]
            have := hml.out
            by_cases hc : n - j * W ≤ W
            · rw [show n - j * W - q = 0 by omega, show n - (j * W + W) = 0 by omega]
              simp [fromN]
            · have hqw : q = W := by omega
              subst hqw
              rw [show n - j * q - q = n - (j * q + q) by omega]
              congr 1
              omega
          have htl : Hid ((m.take q).length = q) := by unfold Hid; rw [List.length_take]; omega
          have hdl : Hid ((m.drop q).length = m.length - q) := by unfold Hid; rw [List.length_drop]
          have hdl2 : Hid ((m.drop q).length = n - (j + 1) * W) := by unfold Hid; rw [hrest.out, fromN_len]
          obtain ⟨v0, hv0⟩ := get_of_lt hpos
          obtain ⟨b, off, rfl, hb, -⟩ := hM.get hv0
          clear hv0 hq
          go_wp2_with fail
          refine (s_l1Least _ _ _).mono ?_
          rintro _ _ ⟨rfl, rfl⟩
          rw [hqi.out]
          go_wp2_with fail
          refine (s_l1Own _ _ _ (m.take q) _ htl.out (by omega) (hM.take q)).mono ?_
          rintro _ w3 ⟨A3, c3, rfl, hin, hb3⟩
          have hz3 := hb3.size
          have hown3 := (hown2.gw hb3).outer
          have G3 : Gw w w3 := by (repeat (first | with_reducible exact Gw.refl _ | with_reducible assumption | ((with_reducible refine Gw.set ?_ ?_ _); rotate_left; (focus (first | (simp; done) | (simp; omega) | omega))) | with_reducible refine Gw.alloc ?_ _ | with_reducible refine Gw.drew ?_ | with_reducible refine Gw.drewN ?_ _ | (refine Gw.trans ?_ (by with_reducible assumption))))
          have hHw := hgw2.size
          have hjn := nch_le (n := n) hW1
          have hsvb : sv.length ≤ 1048576 := by omega
          go_wp2_with (at_builtin; go_loud (refine wpList_push2 (α := SV) rfl (.tmp 33) (.tmp 38) 35 rfl w.heap.size 27 i0 _ 24 Tryd.underlying35 hi hz0 hz1 hz2 rfl (by omega) sv B d rfl w3 (A3, q, c3) rfl _ rfl rfl hown3 hsvb (by omega) ?_); intro acc' A' c' w4 hacc hl1 hl2 hown' hgr hblk hgg)
          all_goals
            have hne : ∀ b' off', (some ⟨b, off, none⟩ : Option Addr) = some ⟨b', off', none⟩ → some b' ≠ (Value.slice B sv.length d).ownBlock := fun b' off' h h' => hMB b' off' h h'.symm
            have hM4 : Rd w4 (some ⟨b, off, none⟩) m := (hM.gw hb3).keep hgr hne
            have hbz : b < w3.heap.size := by omega
            have hpush : OwnSS w4 w.heap.size A' c' acc' ((rowsTo l W k ++ (List.range (j + 1)).map (rowAt F W n)).map flat) := by
              have h1 := hown2.push (x := (A3, q, c3)) (r := flat (m.take q)) hb3 hgr (by rw [← hacc.out]; exact hown') (by rw [flat_len, htl.out]; exact (Nat.mul_one q).symm) (by rw [flat_len, htl.out]; simpa [show Flat.sz Int = 1 from rfl] using hin) hHw
              rw [hacc.out]
              rw [hrow.out] at h1
              simpa [List.range_succ] using h1
            have hacl : acc'.length ≤ 60 * k + (j + 1) := by omega
            have hMB' : ∀ off2 b' off', (some ⟨b, off2, none⟩ : Option Addr) = some ⟨b', off', none⟩ → (Value.slice A' acc'.length c').ownBlock ≠ some b' := by
              intro off2 b' off' h h'
              obtain rfl : b = b' := by simpa using congrArg (fun o => o.map Addr.block) h
              rcases hblk with he | he
              · exact hMB b off rfl (he ▸ h')
              · rw [he] at h'; have := Option.some.inj h'; omega
            have hgw4 : Gw w w4 := hgg w G3 (Nat.le_refl _)
            have hMd : m.length - q ≠ 0 → Rd w4 (some ⟨b, off + q, none⟩) (m.drop q) := fun _ => by simpa [show Flat.sz Int = 1 from rfl] using hM4.drop q
            have hMn : m.length - q = 0 → ∀ X, Rd w4 X (m.drop q) := fun h X => by rw [List.eq_nil_of_length_eq_zero (show (m.drop q).length = 0 by rw [hdl.out]; exact h)]; exact Rd.nil
            have hMd2 : Rd w4 (some ⟨b, off + q, none⟩) (m.drop q) := by
              by_cases h0 : m.length - q = 0
              · exact hMn h0 _
              · exact hMd h0
            go_roundw
            case measure => simp [slLen]; omega
            case rel =>
              first
                | exact ⟨j + 1, A', c', acc', ⟨rfl, rfl, rfl⟩, _, _, m.drop q, ⟨rfl, hdl.out.symm, rfl⟩, by have := hdl.out; omega, by have := hdl.out; omega, by have := hrest.out; unfold Hid; rw [this]; simp, hdl2, hj1.out, hMn (by omega) _, hMB' _, hacl, by simpa using hpush⟩
                | exact ⟨j + 1, A', c', acc', ⟨rfl, rfl, rfl⟩, _, _, m.drop q, ⟨rfl, hdl.out.symm, rfl⟩, by have := hdl.out; omega, by have := hdl.out; omega, by have := hrest.out; unfold Hid; rw [this]; simp, hdl2, hj1.out, hMd2, hMB' _, hacl, by simpa using hpush⟩
        · have hje : Hid (j = nch W n) := by
            unfold Hid
            have := hml.out
            exact Nat.le_antisymm hj (Nat.le_of_not_lt (fun h => by have := (nch_iff hW1).1 h; omega))
          have hm0 : m.length = 0 := by omega
          go_wp2_with fail
          go_roundw
          case rel =>
            refine ⟨k + 1, B, d, sv, by go_num, by omega, rfl, ?_, ?_, hgw2⟩
            · have := hje.out; have := nch_le (n := n) hW1; omega
            · rw [hto.out]
              unfold rowsS
              rw [← hje.out]
              exact hown2
          case measure => simp [intOf]; omega
    · obtain rfl : k = l.length := by omega
      go_wp2_with fail
      go_ret2
      exact ⟨B, d, sv, ret_vb (by rw [hyes.out]), by rw [hyes.out]; exact hown, hgw⟩
end Go.Proofs.YtbhkcbfmlniamaaDoor
