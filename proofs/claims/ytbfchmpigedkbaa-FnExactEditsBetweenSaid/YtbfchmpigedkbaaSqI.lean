/-
  Edits squashed: the program's way.
-/
import Derived.Test.YtbfchmpigedkbaaSqP
import Derived.Test.YtbfchmpigedkbaaAppend
import Derived.Test.YtbfchmpigedkbaaTell
namespace Go.Proofs.Ytbfchmpigedkbaa
open Go.RowKit

/-- A variable that holds an edit. -/
def BoxE (w : World) (b : Nat) (x : Ed) : Prop := w.heap[b]? = some (.cells #[.int .i64 x.1, .int .i64 x.2.1, .int .i64 x.2.2.1, .int .i64 x.2.2.2.1, .int .i64 x.2.2.2.2.1, .int .i64 x.2.2.2.2.2] 50 (0, 0))
theorem row_set {w : World} {b j : Nat} {cs : Array Value} {t : TypeId} {v : Value} (h : w.heap[b]? = some (.cells cs t (0, 0))) : (w.setCell ⟨b, j, none⟩ v).heap[b]? = some (.cells (cs.setIfInBounds j v) t (0, 0)) := by
  rw [setCell_eq_setRow w b j cs t (0, 0) v h]
  exact setRow_heap w b _ _ t _ h
theorem row_free {w : World} {b j : Nat} {cs : Array Value} {t : TypeId} (h : w.heap[b]? = some (.cells cs t (0, 0))) : w.frozen? ⟨b, j, none⟩ = false := by
  unfold World.frozen?
  rw [h]
  simp
theorem BoxE.cells {w : World} {b : Nat} {x : Ed} (h : BoxE w b x) : w.cell? ⟨b, 0, none⟩ = some (.int .i64 x.1) ∧ w.cell? ⟨b, 1, none⟩ = some (.int .i64 x.2.1) ∧ w.cell? ⟨b, 2, none⟩ = some (.int .i64 x.2.2.1) ∧ w.cell? ⟨b, 3, none⟩ = some (.int .i64 x.2.2.2.1) ∧ w.cell? ⟨b, 4, none⟩ = some (.int .i64 x.2.2.2.2.1) ∧ w.cell? ⟨b, 5, none⟩ = some (.int .i64 x.2.2.2.2.2) := by
  unfold BoxE at h
  refine ⟨?_, ?_, ?_, ?_, ?_, ?_⟩ <;> (rw [cell_of_row _ _ _ _ _ _ h]; rfl)
theorem BoxE.free {w : World} {b : Nat} {x : Ed} (h : BoxE w b x) (j : Nat) : w.frozen? ⟨b, j, none⟩ = false := row_free h
theorem BoxE.lt {w : World} {b : Nat} {x : Ed} (h : BoxE w b x) : b < w.heap.size := (Array.getElem?_eq_some_iff.1 h).1
theorem BoxE.gw {w w' : World} {b : Nat} {x : Ed} (h : BoxE w b x) (hg : Gw w w') : BoxE w' b x := by
  unfold BoxE at *
  rw [hg.heap (Array.getElem?_eq_some_iff.1 h).1]
  exact h
theorem BoxE.six {w : World} {b : Nat} {x : Ed} (h : BoxE w b x) (y : Ed) : BoxE ((((((w.setCell ⟨b, 0, none⟩ (.int .i64 y.1)).setCell ⟨b, 1, none⟩ (.int .i64 y.2.1)).setCell ⟨b, 2, none⟩ (.int .i64 y.2.2.1)).setCell ⟨b, 3, none⟩ (.int .i64 y.2.2.2.1)).setCell ⟨b, 4, none⟩ (.int .i64 y.2.2.2.2.1)).setCell ⟨b, 5, none⟩ (.int .i64 y.2.2.2.2.2)) b y := by
  unfold BoxE at *
  exact row_set (row_set (row_set (row_set (row_set (row_set h)))))
theorem BoxE.go1 {w : World} {b : Nat} {x : Ed} (h : BoxE w b x) (a m n : Int) : BoxE (((w.setCell ⟨b, 4, none⟩ (.int .i64 m)).setCell ⟨b, 5, none⟩ (.int .i64 n)).setCell ⟨b, 0, none⟩ (.int .i64 a)) b (a, x.2.1, x.2.2.1, x.2.2.2.1, m, n) := by
  unfold BoxE at *
  exact row_set (row_set (row_set h))
theorem BoxE.go2 {w : World} {b : Nat} {x : Ed} (h : BoxE w b x) (a m n : Int) : BoxE (((w.setCell ⟨b, 0, none⟩ (.int .i64 a)).setCell ⟨b, 4, none⟩ (.int .i64 m)).setCell ⟨b, 5, none⟩ (.int .i64 n)) b (a, x.2.1, x.2.2.1, x.2.2.2.1, m, n) := by
  unfold BoxE at *
  exact row_set (row_set (row_set h))
theorem BoxE.alloc {w : World} {b : Nat} {x : Ed} (h : BoxE w b x) (o : Obj) : BoxE (w.alloc o) b x := h.gw ((Gw.refl _).alloc _)
theorem BoxE.drew {w : World} {b : Nat} {x : Ed} (h : BoxE w b x) : BoxE w.drew b x := h
theorem BoxE.new (w : World) (x : Ed) : BoxE (w.alloc (.cells #[.int .i64 x.1, .int .i64 x.2.1, .int .i64 x.2.2.1, .int .i64 x.2.2.2.1, .int .i64 x.2.2.2.2.1, .int .i64 x.2.2.2.2.2] 50)) w.heap.size x := heap_alloc_new w _

/-- What a chain comes to. -/
def ownOf (c : List Ed) : Ed := match c.head?, c.getLast? with
  | some f, some z => (z.1, f.2.1, f.2.2.1, f.2.2.2.1, z.2.2.2.2.1, z.2.2.2.2.2)
  | _, _ => (0, 0, 0, 0, 0, 0)
theorem ownOf_nil : ownOf [] = (0, 0, 0, 0, 0, 0) := rfl
theorem ownOf_one (x : Ed) : ownOf [x] = x := rfl
theorem ownOf_snoc {c : List Ed} (x : Ed) (h : c ≠ []) : ownOf (c ++ [x]) = (x.1, (ownOf c).2.1, (ownOf c).2.2.1, (ownOf c).2.2.2.1, x.2.2.2.2.1, x.2.2.2.2.2) := by
  cases c with
  | nil => exact absurd rfl h
  | cons f r =>
    obtain ⟨z, hz⟩ : ∃ z, (f :: r).getLast? = some z := ⟨_, List.getLast?_eq_some_getLast (by simp)⟩
    have h1 : ((f :: r) ++ [x]).getLast? = some x := List.getLast?_concat
    unfold ownOf
    rw [h1, hz]
    rfl
theorem ownOf_last {c : List Ed} {z : Ed} (hz : c.getLast? = some z) : (ownOf c).2.2.2.2.1 = z.2.2.2.2.1 ∧ (ownOf c).2.2.2.2.2 = z.2.2.2.2.2 := by
  cases c with
  | nil => simp at hz
  | cons f r => unfold ownOf; rw [hz]; exact ⟨rfl, rfl⟩
theorem sqOne_own {c : List Ed} (h : c ≠ []) : sqOne c = if (ownOf c).2.2.1 = (ownOf c).2.2.2.2.1 ∧ (ownOf c).2.2.2.1 = (ownOf c).2.2.2.2.2 then [] else [ownOf c] := by
  cases c with
  | nil => exact absurd rfl h
  | cons f r =>
    obtain ⟨z, hz⟩ : ∃ z, (f :: r).getLast? = some z := ⟨_, List.getLast?_eq_some_getLast (by simp)⟩
    unfold ownOf sqOne
    rw [hz]
    rfl
theorem last_of_ne {c : List Ed} (h : c ≠ []) : ∃ z, c.getLast? = some z := ⟨_, List.getLast?_eq_some_getLast h⟩

/-- What the inner loop has seen. -/
def SqIn (l : List Ed) (p : Nat) (wo : World) (f q : Value) (w2 : World) : Prop := ∃ (k : Nat) (fb : Bool) (own : Ed), q = .int .i64 k ∧ k ≤ l.length ∧ f = .bool fb ∧ Hid (fb = !(chainP (l.take k) (p : Int)).isEmpty) ∧ Hid (own = ownOf (chainP (l.take k) (p : Int))) ∧ BoxE w2 wo.heap.size own ∧ Hid (Lk (chainP (l.take k) (p : Int))) ∧ Gw wo w2

set_option maxHeartbeats 4000000 in
set_option maxRecDepth 100000 in
theorem i_SquashEdits (A : Option Addr) (c : Nat) (l : List Ed) (w : World) (hl : l.length ≤ 1048576) (hA : Rd w A l) (_hlc : l.length ≤ c) :
    Calls Try.prog 16 #[.slice A l.length c] w fun e w' => ∃ A c, e = .returned (.tuple #[.slice A (squashF l).1.length c, .bool (squashF l).2]) ∧
      w'.ownsRow w.heap.size 50 6 (.slice A (squashF l).1.length c) (squashF l).1.length (flat (squashF l).1) ∧ Gw w w' := by
  obtain ⟨i0, hi, hz0, hz1, hz2⟩ := info_parts infoEdit
  have HA := Lib.hid hA
  go_enter Try.func16, Try.ntmps16
  go_wp2_with fail
  refine (i_areEdits _ _ _ _ hl hA).mono ?_
  rintro _ w1 (⟨hp, rfl, hb1⟩ | ⟨hp, rfl, hb1⟩)
  case inr =>
    have hno := Lib.hid (squashF_bad (l := l) (fun h => hp h.1))
    clear hp
    go_wp2_with fail
    go_ret2
    exact ⟨none, 0, ret_lb (A := none) (c := 0) hno.out, by rw [hno.out]; exact World.ownsRow_nil _ _ _ _, by (repeat (first | with_reducible exact Gw.refl _ | with_reducible assumption | ((with_reducible refine Gw.set ?_ ?_ _); rotate_left; (focus (first | (simp; done) | (simp; omega) | omega))) | with_reducible refine Gw.alloc ?_ _ | with_reducible refine Gw.drew ?_ | with_reducible refine Gw.drewN ?_ _ | (refine Gw.trans ?_ (by with_reducible assumption))))⟩
  have HE := Lib.hid hp
  clear hp hA
  go_wp2_with fail
  go_loopw [4, 14] (fun o q wr => ∃ (p : Nat) (acc : List Ed) (B : Option Addr) (d : Nat), q = .int .i64 p ∧ p ≤ 12 ∧ o = .slice B acc.length d ∧ acc.length ≤ p ∧ wr.ownsRow w.heap.size 50 6 (.slice B acc.length d) acc.length (flat acc) ∧ Hid (acc = sqTo l p) ∧ Hid (∀ r : Nat, r < p → Lk (chainP l (r : Int))) ∧ Gw w wr) (fun _ q _ => 12 - (intOf q).toNat)
  case atStart => exact ⟨0, [], some ⟨w1.heap.size, 0, none⟩, 0, by go_num, by omega, rfl, by simp, World.ownsRow_made w1 #[] 0 hb1.size (by simp [maxLen]) (by simp), rfl, fun r hr => absurd hr (by omega), by (repeat (first | with_reducible exact Gw.refl _ | with_reducible assumption | ((with_reducible refine Gw.set ?_ ?_ _); rotate_left; (focus (first | (simp; done) | (simp; omega) | omega))) | with_reducible refine Gw.alloc ?_ _ | with_reducible refine Gw.drew ?_ | with_reducible refine Gw.drewN ?_ _ | (refine Gw.trans ?_ (by with_reducible assumption))))⟩
  case round =>
    obtain ⟨wo, rfl⟩ : ∃ wo : World, wo = wr := ⟨_, rfl⟩
    obtain ⟨p, acc, B, d, rfl, hp, rfl, ha1, hown, hacc, hlk, hgw⟩ := hrel
    have HGW := Lib.hid hgw
    have hwz := hgw.size
    clear hgw
    by_cases hlt : p < 12
    · go_wp2_with fail
      go_loopw [7, 20] (fun f q w2 => SqIn l p wo f q w2) (fun _ q _ => l.length - (intOf q).toNat)
      case atStart => unfold SqIn; exact ⟨0, false, (0, 0, 0, 0, 0, 0), by go_num, Nat.zero_le _, rfl, by simp [Hid, chainP], by simp [Hid, chainP, ownOf], BoxE.new wo (0, 0, 0, 0, 0, 0), by simp [Hid, chainP, Lk.nil], by (repeat (first | with_reducible exact Gw.refl _ | with_reducible assumption | ((with_reducible refine Gw.set ?_ ?_ _); rotate_left; (focus (first | (simp; done) | (simp; omega) | omega))) | with_reducible refine Gw.alloc ?_ _ | with_reducible refine Gw.drew ?_ | with_reducible refine Gw.drewN ?_ _ | (refine Gw.trans ?_ (by with_reducible assumption))))⟩
      case round =>
        unfold SqIn at hrel
        obtain ⟨k, fb, own, rfl, hk, rfl, hfb, hown1, hbox, hlk1, hg2⟩ := hrel
        by_cases hkl : k < l.length
        · obtain ⟨x, hx⟩ := get_of_lt hkl
          obtain ⟨b, off, hAe, hb, c0, c1, c2, c3, c4, c5⟩ := (HA.out.gw (Gw.trans HGW.out hg2)).get6 hx
          subst hAe
          have hch := Lib.hid (chain_snoc (p := (p : Int)) hx)
          have Hx := Lib.hid hx
          clear hx
          obtain ⟨b0, b1, b2, b3, b4, b5⟩ := hbox.cells
          have f0 := hbox.free 0; have f1 := hbox.free 1; have f2 := hbox.free 2; have f3 := hbox.free 3; have f4 := hbox.free 4; have f5 := hbox.free 5
          have hblt := hbox.lt
          obtain ⟨x0, xp, x2, x3, x4, x5⟩ := x
          obtain ⟨o0, o1, o2, o3, o4, o5⟩ := own
          dsimp only at c0 c1 c2 c3 c4 c5 b0 b1 b2 b3 b4 b5 hch
          by_cases hxp : xp = (p : Int)
          · have e1 : (xp == (p : Int)) = true := by simp [hxp]
            have hch2 : Hid (chainP (l.take (k + 1)) (p : Int) = chainP (l.take k) (p : Int) ++ [(x0, xp, x2, x3, x4, x5)]) := by unfold Hid; rw [hch.out, if_pos hxp]
            have Hxp := Lib.hid hxp
            clear hxp hch
            cases fb with
            | false =>
              have hnil : Hid (chainP (l.take k) (p : Int) = []) := by have := hfb.out; unfold Hid; simpa using this
              go_wp2_with fail
              have hbox' := (hbox.six (x0, xp, x2, x3, x4, x5)).alloc (.cells #[.int .i64 x0, .int .i64 xp, .int .i64 x2, .int .i64 x3, .int .i64 x4, .int .i64 x5] 50)
              go_roundw
              case rel => unfold SqIn; exact ⟨k + 1, true, (x0, xp, x2, x3, x4, x5), by go_num, by omega, rfl, by unfold Hid; rw [hch2.out]; simp, by unfold Hid; rw [hch2.out, hnil.out]; rfl, hbox', by unfold Hid; rw [hch2.out, hnil.out]; exact Lk.snoc.2 ⟨Lk.nil, by simp⟩, by (repeat (first | with_reducible exact Gw.refl _ | with_reducible assumption | ((with_reducible refine Gw.set ?_ ?_ _); rotate_left; (focus (first | (simp; done) | (simp; omega) | omega))) | with_reducible refine Gw.alloc ?_ _ | with_reducible refine Gw.drew ?_ | with_reducible refine Gw.drewN ?_ _ | (refine Gw.trans ?_ (by with_reducible assumption))))⟩
              case measure => simp [intOf]; omega
            | true =>
              have hne : Hid (chainP (l.take k) (p : Int) ≠ []) := by have := hfb.out; unfold Hid; simpa using this
              obtain ⟨z, hz⟩ := last_of_ne hne.out
              have hzl := ownOf_last hz
              rw [← hown1.out] at hzl
              dsimp only at hzl
              have Hz := Lib.hid hz
              have Hzl := Lib.hid hzl
              clear hz hzl
              by_cases hF : o4 = x2 ∧ o5 = x3
              · obtain ⟨hF1, hF2⟩ := hF
                have e2 : (o4 == x2) = true := by simp [hF1]
                have e3 : (o5 == x3) = true := by simp [hF2]
                have HF : Hid (Fol z (x0, xp, x2, x3, x4, x5)) := by unfold Hid; exact ⟨by rw [← Hzl.out.1]; exact hF1, by rw [← Hzl.out.2]; exact hF2⟩
                clear hF1 hF2
                go_wp2_with fail
                have hks : ∀ u : World, u.heap.size = wr.heap.size → ((u.alloc (.cells #[.int .i64 x0, .int .i64 xp, .int .i64 x2, .int .i64 x3, .int .i64 x4, .int .i64 x5] 50)).drew.cell? ⟨wr.heap.size, 0, none⟩ = some (.int .i64 x0) ∧ (u.alloc (.cells #[.int .i64 x0, .int .i64 xp, .int .i64 x2, .int .i64 x3, .int .i64 x4, .int .i64 x5] 50)).drew.cell? ⟨wr.heap.size, 4, none⟩ = some (.int .i64 x4) ∧ (u.alloc (.cells #[.int .i64 x0, .int .i64 xp, .int .i64 x2, .int .i64 x3, .int .i64 x4, .int .i64 x5] 50)).drew.cell? ⟨wr.heap.size, 5, none⟩ = some (.int .i64 x5)) := fun u hu => by
                  rw [← hu]
                  exact ⟨box_cell (Gw.refl _).drew rfl, box_cell (Gw.refl _).drew rfl, box_cell (Gw.refl _).drew rfl⟩
                have Hks := Lib.hid hks
                clear hks
                go_region_held3 (fun u => u.cell? ⟨wr.heap.size, 0, none⟩ = some (.int .i64 x0) ∧ u.cell? ⟨wr.heap.size, 4, none⟩ = some (.int .i64 x4) ∧ u.cell? ⟨wr.heap.size, 5, none⟩ = some (.int .i64 x5)) (first | exact Hks.out _ (by simp) | go_keep) (first | fail)
                have hbox' := ((hbox.go1 x0 x4 x5).alloc (.cells #[.int .i64 x0, .int .i64 xp, .int .i64 x2, .int .i64 x3, .int .i64 x4, .int .i64 x5] 50)).drew
                have hos := ownOf_snoc (x0, xp, x2, x3, x4, x5) hne.out
                rw [← hown1.out] at hos
                have Hos := Lib.hid hos
                clear hos
                go_wp2_with fail
                go_roundw
                case rel => refine ⟨_, _, _, _, _, ?_, rfl, rfl, rfl, rfl, rfl⟩; unfold SqIn; exact ⟨k + 1, true, (x0, o1, o2, o3, x4, x5), by go_num, by omega, rfl, by unfold Hid; rw [hch2.out]; simp, by unfold Hid; rw [hch2.out, Hos.out], hbox', by unfold Hid; rw [hch2.out]; exact Lk.snoc.2 ⟨hlk1.out, fun y hy => by rw [Hz.out] at hy; cases hy; exact HF.out⟩, by (repeat (first | with_reducible exact Gw.refl _ | with_reducible assumption | ((with_reducible refine Gw.set ?_ ?_ _); rotate_left; (focus (first | (simp; done) | (simp; omega) | omega))) | with_reducible refine Gw.alloc ?_ _ | with_reducible refine Gw.drew ?_ | with_reducible refine Gw.drewN ?_ _ | (refine Gw.trans ?_ (by with_reducible assumption))))⟩
                case measure => simp [intOf]; omega
              · have HF : Hid (¬Fol z (x0, xp, x2, x3, x4, x5)) := fun h => hF ⟨by rw [Hzl.out.1]; exact h.1, by rw [Hzl.out.2]; exact h.2⟩
                have hbad : ¬LkAll l := lk_bad Hx.out (by rw [Hxp.out]; exact Hz.out) HF.out
                have hno := Lib.hid (squashF_bad (l := l) (fun h => hbad h.2))
                clear hbad
                by_cases h4 : o4 = x2
                · have e2 : (o4 == x2) = true := by simp [h4]
                  have h5 : ¬(o5 = x3) := fun h => hF ⟨h4, h⟩
                  have e3 : (o5 == x3) = false := by simp [h5]
                  clear hF h4 h5
                  go_wp2_with fail
                  go_ret2
                  exact ⟨none, 0, ret_lb (A := none) (c := 0) hno.out, by rw [hno.out]; exact World.ownsRow_nil _ _ _ _, Gw.trans HGW.out (by (repeat (first | with_reducible exact Gw.refl _ | with_reducible assumption | ((with_reducible refine Gw.set ?_ ?_ _); rotate_left; (focus (first | (simp; done) | (simp; omega) | omega))) | with_reducible refine Gw.alloc ?_ _ | with_reducible refine Gw.drew ?_ | with_reducible refine Gw.drewN ?_ _ | (refine Gw.trans ?_ (by with_reducible assumption)))))⟩
                · have e2 : (o4 == x2) = false := by simp [h4]
                  clear hF h4
                  go_wp2_with fail
                  go_ret2
                  exact ⟨none, 0, ret_lb (A := none) (c := 0) hno.out, by rw [hno.out]; exact World.ownsRow_nil _ _ _ _, Gw.trans HGW.out (by (repeat (first | with_reducible exact Gw.refl _ | with_reducible assumption | ((with_reducible refine Gw.set ?_ ?_ _); rotate_left; (focus (first | (simp; done) | (simp; omega) | omega))) | with_reducible refine Gw.alloc ?_ _ | with_reducible refine Gw.drew ?_ | with_reducible refine Gw.drewN ?_ _ | (refine Gw.trans ?_ (by with_reducible assumption)))))⟩
          · have e1 : (xp == (p : Int)) = false := by simp [hxp]
            have hch2 : Hid (chainP (l.take (k + 1)) (p : Int) = chainP (l.take k) (p : Int)) := by unfold Hid; rw [hch.out, if_neg hxp]
            clear hxp hch
            go_wp2_with fail
            go_roundw
            case rel => unfold SqIn; exact ⟨k + 1, fb, (o0, o1, o2, o3, o4, o5), by go_num, by omega, rfl, by unfold Hid; rw [hch2.out]; exact hfb.out, by unfold Hid; rw [hch2.out]; exact hown1.out, hbox.gw (by (repeat (first | with_reducible exact Gw.refl _ | with_reducible assumption | ((with_reducible refine Gw.set ?_ ?_ _); rotate_left; (focus (first | (simp; done) | (simp; omega) | omega))) | with_reducible refine Gw.alloc ?_ _ | with_reducible refine Gw.drew ?_ | with_reducible refine Gw.drewN ?_ _ | (refine Gw.trans ?_ (by with_reducible assumption))))), by unfold Hid; rw [hch2.out]; exact hlk1.out, by (repeat (first | with_reducible exact Gw.refl _ | with_reducible assumption | ((with_reducible refine Gw.set ?_ ?_ _); rotate_left; (focus (first | (simp; done) | (simp; omega) | omega))) | with_reducible refine Gw.alloc ?_ _ | with_reducible refine Gw.drew ?_ | with_reducible refine Gw.drewN ?_ _ | (refine Gw.trans ?_ (by with_reducible assumption))))⟩
            case measure => simp [intOf]; omega
        · obtain rfl : k = l.length := by omega
          have hall : Hid (chainP (l.take l.length) (p : Int) = chainP l (p : Int)) := by unfold Hid; rw [List.take_length]
          have hlk2 : Hid (∀ r : Nat, r < p + 1 → Lk (chainP l (r : Int))) := by
            unfold Hid
            intro r hr
            by_cases e : r = p
            · subst e; rw [← hall.out]; exact hlk1.out
            · exact hlk.out r (by omega)
          have hgw2 : Gw w wr := Gw.trans HGW.out hg2
          have hown2 := own_gw hown hg2
          obtain ⟨b0, b1, b2, b3, b4, b5⟩ := hbox.cells
          have hblt := hbox.lt
          have hwz2 := hgw2.size
          cases fb with
          | false =>
            have hnil : Hid (chainP l (p : Int) = []) := by rw [← hall.out]; have := hfb.out; unfold Hid; simpa using this
            have hst : Hid (sqTo l (p + 1) = acc) := by unfold Hid sqTo; rw [hnil.out, sqOne_nil, List.append_nil, hacc.out]
            clear b0 b1 b2 b3 b4 b5
            go_wp2_with fail
            go_roundw
            case rel => exact ⟨p + 1, acc, B, d, by go_num, by omega, rfl, by omega, hown2, hst.out.symm, hlk2, by (repeat (first | with_reducible exact Gw.refl _ | with_reducible assumption | ((with_reducible refine Gw.set ?_ ?_ _); rotate_left; (focus (first | (simp; done) | (simp; omega) | omega))) | with_reducible refine Gw.alloc ?_ _ | with_reducible refine Gw.drew ?_ | with_reducible refine Gw.drewN ?_ _ | (refine Gw.trans ?_ (by with_reducible assumption))))⟩
            case measure => simp [intOf]; omega
          | true =>
            have hne : Hid (chainP l (p : Int) ≠ []) := by rw [← hall.out]; have := hfb.out; unfold Hid; simpa using this
            have hone := sqOne_own hne.out
            rw [← hall.out, ← hown1.out, hall.out] at hone
            obtain ⟨o0, o1, o2, o3, o4, o5⟩ := own
            dsimp only at hone b0 b1 b2 b3 b4 b5
            by_cases hF : o2 = o4 ∧ o3 = o5
            · rw [if_pos hF] at hone
              have hst : Hid (sqTo l (p + 1) = acc) := by unfold Hid sqTo; rw [hone, List.append_nil, hacc.out]
              have e2 : (o2 == o4) = true := by simp [hF.1]
              have e3 : (o3 == o5) = true := by simp [hF.2]
              clear hone hF
              go_wp2_with fail
              go_roundw
              case rel => exact ⟨p + 1, acc, B, d, by go_num, by omega, rfl, by omega, hown2, hst.out.symm, hlk2, by (repeat (first | with_reducible exact Gw.refl _ | with_reducible assumption | ((with_reducible refine Gw.set ?_ ?_ _); rotate_left; (focus (first | (simp; done) | (simp; omega) | omega))) | with_reducible refine Gw.alloc ?_ _ | with_reducible refine Gw.drew ?_ | with_reducible refine Gw.drewN ?_ _ | (refine Gw.trans ?_ (by with_reducible assumption))))⟩
              case measure => simp [intOf]; omega
            · rw [if_neg hF] at hone
              have hst : Hid (sqTo l (p + 1) = acc ++ [(o0, o1, o2, o3, o4, o5)]) := by unfold Hid sqTo; rw [hone, hacc.out]
              clear hone
              by_cases h4 : o2 = o4
              all_goals
                first
                  | (have e2 : (o2 == o4) = true := by simp [h4]
                     have h5 : ¬(o3 = o5) := fun h => hF ⟨h4, h⟩
                     have e3 : (o3 == o5) = false := by simp [h5]
                     clear h5)
                  | (have e2 : (o2 == o4) = false := by simp [h4])
                clear hF h4
                go_wp2_with (at_builtin; refine wpList_push (α := Ed) rfl (.tmp 54) (.tmp 56) 27 rfl w.heap.size 50 i0 _ 48 Try.underlying27 hi hz0 hz1 hz2 rfl (by omega) acc B d rfl wr (o0, o1, o2, o3, o4, o5) rfl _ rfl rfl hown2 (by omega) (by omega) ?_; intro acc' A' c'' w9 hacc' hl1 hl2 hown' _ hgg)
                go_roundw
                case rel => exact ⟨p + 1, acc', A', c'', by go_num, by omega, rfl, by omega, hown', by unfold Hid; rw [hacc'.out]; exact hst.out.symm, hlk2, hgg w (by (repeat (first | with_reducible exact Gw.refl _ | with_reducible assumption | ((with_reducible refine Gw.set ?_ ?_ _); rotate_left; (focus (first | (simp; done) | (simp; omega) | omega))) | with_reducible refine Gw.alloc ?_ _ | with_reducible refine Gw.drew ?_ | with_reducible refine Gw.drewN ?_ _ | (refine Gw.trans ?_ (by with_reducible assumption))))) (Nat.le_refl _)⟩
                case measure => simp [intOf]; omega
    · obtain rfl : p = 12 := by omega
      have hfin : Hid (squashF l = (acc, true)) := by unfold Hid; rw [squashF_good ⟨HE.out, lkAll_of HE.out hlk.out⟩, hacc.out]
      go_wp2_with fail
      go_ret2
      exact ⟨B, d, ret_lb hfin.out, by rw [hfin.out]; exact hown, HGW.out⟩
end Go.Proofs.Ytbfchmpigedkbaa
