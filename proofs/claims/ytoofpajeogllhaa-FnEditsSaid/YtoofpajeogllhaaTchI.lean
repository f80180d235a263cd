/-
  The performers that an editor touched: both ways.
-/
import Derived.Test.YtoofpajeogllhaaTchS
import Derived.Test.YtoofpajeogllhaaTyEdit
import Derived.Shelf.Abstract
namespace Go.Proofs.Ytoofpajeogllhaa
open Go.RowKit

abbrev vEd (x : Ed) : Value := .agg #[.int .i64 x.1, .int .i64 x.2.1, .int .i64 x.2.2.1, .int .i64 x.2.2.2.1, .int .i64 x.2.2.2.2.1, .int .i64 x.2.2.2.2.2]
theorem enters1 : ∀ args w, (callFunc 50 args).run Try.prog w = .ok (.enter 50 args) w := enters_of Try.func50 (by kernel_rfl) rfl
theorem enters2 : ∀ args w, (callFunc 63 args).run Try.prog w = .ok (.enter 63 args) w := enters_of Try.func63 (by kernel_rfl) rfl

theorem i_chosen (x : Ed) (B : Nat) (n : Int) (w : World) (hB : B < w.heap.size) (hc : w.cell? ⟨B, 0, none⟩ = some (.int .i64 n)) :
    Calls Try.prog 50 #[vEd x, .pointer (some ⟨B, 0, none⟩)] w fun e w' => e = .returned (.bool (x.1 == n)) ∧ Gw w w' := by
  go_enter Try.func50, Try.ntmps50
  go_wp2
  go_ret
  exact ⟨rfl, by (repeat (first | with_reducible exact Gw.refl _ | with_reducible assumption | ((with_reducible refine Gw.set ?_ ?_ _); rotate_left; (focus (first | (simp; done) | (simp; omega) | omega))) | with_reducible refine Gw.alloc ?_ _ | with_reducible refine Gw.drew ?_ | with_reducible refine Gw.drewN ?_ _ | (refine Gw.trans ?_ (by with_reducible assumption))))⟩

set_option maxHeartbeats 1000000 in
theorem i_picked (x : Ed) (B Bi Bc : Nat) (n i : Int) (w : World) (hB : B < w.heap.size) (hc : w.cell? ⟨B, 0, none⟩ = some (.int .i64 n)) (hBi : Bi < w.heap.size) (hci : w.cell? ⟨Bi, 0, none⟩ = some (.int .i64 i))
    (hBc : Bc < w.heap.size) (hcc : w.cell? ⟨Bc, 0, none⟩ = some (.func (.func 50) #[] #[.pointer (some ⟨B, 0, none⟩)])) :
    Calls Try.prog 63 #[vEd x, .pointer (some ⟨Bi, 0, none⟩), .pointer (some ⟨Bc, 0, none⟩)] w fun e w' => e = .returned (.bool (x.2.1 == i && x.1 == n)) ∧ Gw w w' := by
  have eg := enters1
  obtain ⟨x0, xp, x2, x3, x4, x5⟩ := x
  dsimp only
  by_cases h : xp = i
  · subst h
    have e1 : (xp == xp) = true := by simp
    go_enter Try.func63, Try.ntmps63
    have hcall := i_chosen (x0, xp, x2, x3, x4, x5) B n (w.alloc (.cells #[.int .i64 x0, .int .i64 xp, .int .i64 x2, .int .i64 x3, .int .i64 x4, .int .i64 x5] 28)) (by simp; omega) (by rw [World.cell?_alloc_past _ _ _ hB]; exact hc)
    have Hcall := Lib.hid hcall
    clear hcall
    go_wp2_with (go_at_fn 50; refine Hcall.out.mono ?_; rintro e w' ⟨rfl, hb'⟩)
    go_ret
    exact ⟨by simp [e1], by (repeat (first | with_reducible exact Gw.refl _ | with_reducible assumption | ((with_reducible refine Gw.set ?_ ?_ _); rotate_left; (focus (first | (simp; done) | (simp; omega) | omega))) | with_reducible refine Gw.alloc ?_ _ | with_reducible refine Gw.drew ?_ | with_reducible refine Gw.drewN ?_ _ | (refine Gw.trans ?_ (by with_reducible assumption))))⟩
  · have e1 : (xp == i) = false := by simp [h]
    have H := Lib.hid h
    clear h
    go_enter Try.func63, Try.ntmps63
    go_wp2
    go_ret
    exact ⟨by simp [e1], by (repeat (first | with_reducible exact Gw.refl _ | with_reducible assumption | ((with_reducible refine Gw.set ?_ ?_ _); rotate_left; (focus (first | (simp; done) | (simp; omega) | omega))) | with_reducible refine Gw.alloc ?_ _ | with_reducible refine Gw.drew ?_ | with_reducible refine Gw.drewN ?_ _ | (refine Gw.trans ?_ (by with_reducible assumption))))⟩

def PickIn (w : World) (Bi Bc B : Nat) (i n : Int) : Prop := (B < w.heap.size ∧ w.cell? ⟨B, 0, none⟩ = some (.int .i64 n)) ∧ (Bi < w.heap.size ∧ w.cell? ⟨Bi, 0, none⟩ = some (.int .i64 i)) ∧ Bc < w.heap.size ∧ w.cell? ⟨Bc, 0, none⟩ = some (.func (.func 50) #[] #[.pointer (some ⟨B, 0, none⟩)])
theorem PickIn.gw {w w' : World} {Bi Bc B : Nat} {i n : Int} (h : PickIn w Bi Bc B i n) (hg : Gw w w') : PickIn w' Bi Bc B i n := by
  obtain ⟨⟨h1, h2⟩, ⟨h3, h4⟩, h5, h6⟩ := h
  have := hg.size
  exact ⟨⟨by omega, by rw [hg.cells _ _ h1]; exact h2⟩, ⟨by omega, by rw [hg.cells _ _ h3]; exact h4⟩, by omega, by rw [hg.cells _ _ h5]; exact h6⟩

set_option maxHeartbeats 2000000 in
theorem x_IndexFunc (A : Option Addr) (c : Nat) (l : List Ed) (Bi Bc B : Nat) (i n : Int) (w : World) (hl : l.length ≤ 1048576) (hA : Rd w A l) (hP : PickIn w Bi Bc B i n) :
    Calls Try.prog 65 #[.slice A l.length c, .func (.func 63) #[] #[.pointer (some ⟨Bi, 0, none⟩), .pointer (some ⟨Bc, 0, none⟩)]] w
      fun e w' => ∃ q : Int, e = .returned (.int .i64 q) ∧ Hid (0 ≤ q ↔ TchP l n i) ∧ Gw w w' := by
  have eg := enters2
  go_enter Try.func65, Try.ntmps65
  go_wp2_with fail
  go_loopw [8] (fun s wr => ∃ k : Nat, s = .int .i64 k ∧ k ≤ l.length ∧ Hid (AllTo (fun x : Ed => ¬(x.1 = n ∧ x.2.1 = i)) l k) ∧ Gw w wr) (fun s _ => l.length - (intOf s).toNat)
  case atStart => exact ⟨0, by go_num, Nat.zero_le _, AllTo.zero, by (repeat (first | with_reducible exact Gw.refl _ | with_reducible assumption | ((with_reducible refine Gw.set ?_ ?_ _); rotate_left; (focus (first | (simp; done) | (simp; omega) | omega))) | with_reducible refine Gw.alloc ?_ _ | with_reducible refine Gw.drew ?_ | with_reducible refine Gw.drewN ?_ _ | (refine Gw.trans ?_ (by with_reducible assumption))))⟩
  case round =>
    obtain ⟨k, rfl, hk, hall, hgw⟩ := hrel
    by_cases hlt : k < l.length
    · obtain ⟨x, hx⟩ := get_of_lt hlt
      obtain ⟨b, off, rfl, hb, c0, c1, c2, c3, c4, c5⟩ := (hA.gw hgw).get6 hx
      obtain ⟨⟨p1, p2⟩, ⟨p3, p4⟩, p5, p6⟩ := hP.gw hgw
      have hcall := i_picked x B Bi Bc n i wr p1 p2 p3 p4 p5 p6
      have Hx := Lib.hid hx
      clear hx p1 p2 p3 p4 p5 p6
      by_cases hC : x.1 = n ∧ x.2.1 = i
      · have hbv : (x.2.1 == i && x.1 == n) = true := by simp [hC.1, hC.2]
        rw [hbv] at hcall
        have Hcall := Lib.hid hcall
        clear hbv hcall
        have hyes : Hid (TchP l n i) := ⟨x, mem_of_get Hx.out, hC⟩
        clear hC
        go_wp2_with (go_at_fn 63; refine Hcall.out.mono ?_; rintro e w' ⟨rfl, hb'⟩)
        go_ret
        exact ⟨k, rfl, ⟨fun _ => hyes.out, fun _ => by omega⟩, by (repeat (first | with_reducible exact Gw.refl _ | with_reducible assumption | ((with_reducible refine Gw.set ?_ ?_ _); rotate_left; (focus (first | (simp; done) | (simp; omega) | omega))) | with_reducible refine Gw.alloc ?_ _ | with_reducible refine Gw.drew ?_ | with_reducible refine Gw.drewN ?_ _ | (refine Gw.trans ?_ (by with_reducible assumption))))⟩
      · have hbv : (x.2.1 == i && x.1 == n) = false := by
          rcases Decidable.not_and_iff_or_not.1 hC with h | h <;> simp [h]
        rw [hbv] at hcall
        have Hcall := Lib.hid hcall
        clear hbv hcall
        have HC := Lib.hid hC
        clear hC
        go_wp2_with (go_at_fn 63; refine Hcall.out.mono ?_; rintro e w' ⟨rfl, hb'⟩)
        go_roundw
        case rel => exact ⟨k + 1, by go_num, by omega, AllTo.succ hall.out Hx.out HC.out, by (repeat (first | with_reducible exact Gw.refl _ | with_reducible assumption | ((with_reducible refine Gw.set ?_ ?_ _); rotate_left; (focus (first | (simp; done) | (simp; omega) | omega))) | with_reducible refine Gw.alloc ?_ _ | with_reducible refine Gw.drew ?_ | with_reducible refine Gw.drewN ?_ _ | (refine Gw.trans ?_ (by with_reducible assumption))))⟩
        case measure => simp [intOf]; omega
    · have HN : Hid (¬TchP l n i) := fun ⟨x, hx, h⟩ => AllTo.all hall.out (by omega) x hx h
      go_wp2_with fail
      go_ret
      exact ⟨-1, rfl, ⟨fun h => absurd h (by omega), fun h => absurd h HN.out⟩, by (repeat (first | with_reducible exact Gw.refl _ | with_reducible assumption | ((with_reducible refine Gw.set ?_ ?_ _); rotate_left; (focus (first | (simp; done) | (simp; omega) | omega))) | with_reducible refine Gw.alloc ?_ _ | with_reducible refine Gw.drew ?_ | with_reducible refine Gw.drewN ?_ _ | (refine Gw.trans ?_ (by with_reducible assumption))))⟩

set_option maxHeartbeats 1000000 in
theorem x_ContainsFunc (A : Option Addr) (c : Nat) (l : List Ed) (Bi Bc B : Nat) (i n : Int) (w : World) (hl : l.length ≤ 1048576) (hA : Rd w A l) (hP : PickIn w Bi Bc B i n) :
    Calls Try.prog 62 #[.slice A l.length c, .func (.func 63) #[] #[.pointer (some ⟨Bi, 0, none⟩), .pointer (some ⟨Bc, 0, none⟩)]] w (Tells (TchP l n i) w) := by
  go_enter Try.func62, Try.ntmps62
  go_wp2_with fail
  refine (x_IndexFunc _ _ _ _ _ _ _ _ _ hl hA hP).mono ?_
  rintro _ w' ⟨q, rfl, hq, hb⟩
  go_wp2_with fail
  go_ret
  exact tells_of (by rw [← hq.out]; simp) (by (repeat (first | with_reducible exact Gw.refl _ | with_reducible assumption | ((with_reducible refine Gw.set ?_ ?_ _); rotate_left; (focus (first | (simp; done) | (simp; omega) | omega))) | with_reducible refine Gw.alloc ?_ _ | with_reducible refine Gw.drew ?_ | with_reducible refine Gw.drewN ?_ _ | (refine Gw.trans ?_ (by with_reducible assumption)))))

set_option maxHeartbeats 4000000 in
set_option maxRecDepth 100000 in
theorem i_touched (A : Option Addr) (c : Nat) (l : List Ed) (B : Nat) (n : Int) (w : World) (hl : l.length ≤ 1048576) (hA : Rd w A l) (hB : B < w.heap.size) (hc : w.cell? ⟨B, 0, none⟩ = some (.int .i64 n)) :
    Calls Try.prog 49 #[.slice A l.length c, .func (.func 50) #[] #[.pointer (some ⟨B, 0, none⟩)]] w fun e w' => ∃ A c, e = .returned (.slice A (tchTo l n 12).length c) ∧
      w'.ownsRow w.heap.size 3 1 (.slice A (tchTo l n 12).length c) (tchTo l n 12).length (flat (tchTo l n 12)) ∧ Gw w w' := by
  obtain ⟨i0, hi, hz0, hz1, hz2⟩ := info_parts infoInt
  have HA := Lib.hid hA
  clear hA
  go_enter Try.func49, Try.ntmps49
  go_wp2_with fail
  have hw1 : ∀ W, Gw (w.alloc (.cells #[.func (.func 50) #[] #[.pointer (some ⟨B, 0, none⟩)]] 35)) W → (Gw w W ∧ W.cell? ⟨B, 0, none⟩ = some (.int .i64 n) ∧ W.cell? ⟨w.heap.size, 0, none⟩ = some (.func (.func 50) #[] #[.pointer (some ⟨B, 0, none⟩)]) ∧ w.heap.size < W.heap.size) := fun W hg => by
    have h1 : Gw w W := Gw.trans ((Gw.refl w).alloc _) hg
    have h2 := hg.size
    simp at h2
    exact ⟨h1, by rw [h1.cells _ _ hB]; exact hc, box_cell hg rfl, by omega⟩
  have Hw1 := Lib.hid hw1
  clear hw1
  go_loopw [5, 8] (fun o q wr => ∃ (p : Nat) (acc : List Int) (D : Option Addr) (d : Nat), q = .int .i64 p ∧ p ≤ 12 ∧ o = .slice D acc.length d ∧ acc.length ≤ p ∧ wr.ownsRow (w.heap.size + 1) 3 1 (.slice D acc.length d) acc.length (flat acc) ∧ Hid (acc = tchTo l n p) ∧ Gw (w.alloc (.cells #[.func (.func 50) #[] #[.pointer (some ⟨B, 0, none⟩)]] 35)) wr) (fun _ q _ => 12 - (intOf q).toNat)
  case atStart => exact ⟨0, [], some ⟨w.heap.size + 1, 0, none⟩, 0, by go_num, by omega, rfl, by simp, by have := World.ownsRow_made (base := w.heap.size + 1) (e := 3) (size := 1) (w.alloc (.cells #[.func (.func 50) #[] #[.pointer (some ⟨B, 0, none⟩)]] 35)) #[] 0 (by simp) (by simp [maxLen]) (by simp); simpa [flat] using this, by simp [Hid, tchTo, upN], by (repeat (first | with_reducible exact Gw.refl _ | with_reducible assumption | ((with_reducible refine Gw.set ?_ ?_ _); rotate_left; (focus (first | (simp; done) | (simp; omega) | omega))) | with_reducible refine Gw.alloc ?_ _ | with_reducible refine Gw.drew ?_ | with_reducible refine Gw.drewN ?_ _ | (refine Gw.trans ?_ (by with_reducible assumption))))⟩
  case round =>
    obtain ⟨p, acc, D, d, rfl, hp, rfl, ha1, hown, hacc, hgw⟩ := hrel
    by_cases hlt : p < 12
    · obtain ⟨g1, g2, g3, g4⟩ := Hw1.out wr hgw
      have HG := Lib.hid hgw
      have HA2 : Hid (Rd wr A l) := HA.out.gw g1
      have hgz := g1.size
      clear hgw
      have hpick : Hid (PickIn (wr.alloc (.cells #[.int .i64 (p : Int)] 3)) wr.heap.size w.heap.size B (p : Int) n) := by
        have q := (Gw.refl wr).alloc (.cells #[.int .i64 (p : Int)] 3)
        exact ⟨⟨by simp; omega, by rw [q.cells _ _ (by omega)]; exact g2⟩, ⟨by simp, box_cell (Gw.refl _) rfl⟩, by simp; omega, by rw [q.cells _ _ g4]; exact g3⟩
      go_wp2_with fail
      refine (x_ContainsFunc _ _ _ _ _ _ _ _ _ hl (HA2.out.gw (by (repeat (first | with_reducible exact Gw.refl _ | with_reducible assumption | ((with_reducible refine Gw.set ?_ ?_ _); rotate_left; (focus (first | (simp; done) | (simp; omega) | omega))) | with_reducible refine Gw.alloc ?_ _ | with_reducible refine Gw.drew ?_ | with_reducible refine Gw.drewN ?_ _ | (refine Gw.trans ?_ (by with_reducible assumption)))))) hpick.out).mono ?_
      rintro _ w2 (⟨hp1, rfl, hb2⟩ | ⟨hp1, rfl, hb2⟩)
      · have hst := Lib.hid (tchTo_yes hp1)
        clear hp1
        have hown2 := own_gw hown ((Gw.refl wr).alloc (.cells #[.int .i64 (p : Int)] 3))
        have hown3 := own_gw hown2 hb2
        have cbox : w2.cell? ⟨wr.heap.size, 0, none⟩ = some (.int .i64 (p : Int)) := box_cell hb2 rfl
        have hz2' := hb2.size
        (try simp at hz2')
        have hGw2 := Gw.trans (Gw.alloc HG.out (.cells #[.int .i64 (p : Int)] 3)) hb2
        go_wp2_with (at_builtin; refine wpList_push (α := Int) rfl (.tmp 14) (.tmp 16) 46 rfl (w.heap.size + 1) 3 i0 _ 8 Try.underlying46 hi hz0 hz1 hz2 rfl (by omega) acc D d rfl w2 (p : Int) rfl _ rfl rfl hown3 (by omega) (by omega) ?_; intro acc' A' c'' w9 hacc' hl1 hl2 hown' _ hgg)
        go_roundw
        case rel => exact ⟨p + 1, acc', A', c'', by go_num, by omega, rfl, by omega, hown', by unfold Hid; rw [hacc'.out, hst.out, hacc.out], hgg _ (by (repeat (first | with_reducible exact Gw.refl _ | with_reducible assumption | ((with_reducible refine Gw.set ?_ ?_ _); rotate_left; (focus (first | (simp; done) | (simp; omega) | omega))) | with_reducible refine Gw.alloc ?_ _ | with_reducible refine Gw.drew ?_ | with_reducible refine Gw.drewN ?_ _ | (refine Gw.trans ?_ (by with_reducible assumption))))) (by simp)⟩
        case measure => simp [intOf]; omega
      · have hst := Lib.hid (tchTo_no hp1)
        clear hp1
        go_wp2_with fail
        go_roundw
        case rel => exact ⟨p + 1, acc, D, d, by go_num, by omega, rfl, by omega, own_gw (own_gw hown ((Gw.refl wr).alloc _)) hb2, by unfold Hid; rw [hst.out]; exact hacc.out, Gw.trans (Gw.alloc HG.out _) hb2⟩
        case measure => simp [intOf]; omega
    · obtain rfl : p = 12 := by omega
      go_wp2_with fail
      go_ret
      exact ⟨D, d, by rw [← hacc.out]; rfl, by rw [← hacc.out]; exact own_lower hown (by omega), (Hw1.out _ hgw).1⟩
end Go.Proofs.Ytoofpajeogllhaa
