/-
  The program's table of hours.
-/
import Derived.Test.YtipndibiioajmaaBox
import Derived.Test.YtipndibiioajmaaTab
namespace Go.Proofs.Ytipndibiioajmaa
open Go.RowKit

def Z1680 : Array Value := Array.replicate 1680 (.bool false)
theorem z_get (j : Nat) (hj : j < 1680) : Z1680[j]? = some (.bool false) := by
  unfold Z1680
  simp [hj]
/-- A table of hours in a block. -/
def TabR (w : World) (b : Nat) (T : Nat → Nat → Bool) : Prop := ∃ cs, BoxR w b cs 111 ∧ cs.size = 1680 ∧ ∀ p h, p < 10 → h < 168 → cs[p * 168 + h]? = some (.bool (T p h))
theorem TabR.lt {w : World} {b : Nat} {T : Nat → Nat → Bool} (h : TabR w b T) : b < w.heap.size := by obtain ⟨cs, h, _⟩ := h; exact h.lt
theorem TabR.gw {w w' : World} {b : Nat} {T : Nat → Nat → Bool} (h : TabR w b T) (hg : Gw w w') : TabR w' b T := by
  obtain ⟨cs, h, r⟩ := h
  exact ⟨cs, h.gw hg, r⟩
theorem TabR.cell {w : World} {b : Nat} {T : Nat → Nat → Bool} (h : TabR w b T) {p k : Nat} (hp : p < 10) (hk : k < 168) : w.cell? ⟨b, p * 168 + k, none⟩ = some (.bool (T p k)) := by
  obtain ⟨cs, h, _, r⟩ := h
  exact h.cell _ (r p k hp hk)
theorem TabR.free {w : World} {b : Nat} {T : Nat → Nat → Bool} (h : TabR w b T) (j : Nat) : w.frozen? ⟨b, j, none⟩ = false := by
  obtain ⟨cs, h, _⟩ := h
  exact h.free j
def setT (T : Nat → Nat → Bool) (p f t : Nat) (on : Bool) : Nat → Nat → Bool := fun q h => if q = p ∧ f ≤ h ∧ h < t then on else T q h
theorem setT_none (T : Nat → Nat → Bool) (p f : Nat) (on : Bool) : setT T p f f on = T := by
  funext q h
  unfold setT
  rw [if_neg (by omega)]
theorem TabR.set {w : World} {b : Nat} {T : Nat → Nat → Bool} {p f k : Nat} {on : Bool} (h : TabR w b (setT T p f k on)) (hp : p < 10) (hf : f ≤ k) (hk : k < 168) :
    TabR (w.setCell ⟨b, p * 168 + k, none⟩ (.bool on)) b (setT T p f (k + 1) on) := by
  obtain ⟨cs, h, hs, r⟩ := h
  refine ⟨_, h.set _ _, by simp [hs], fun q j hq hj => ?_⟩
  rw [Array.getElem?_setIfInBounds]
  by_cases hqj : p * 168 + k = q * 168 + j
  · have h1 : p = q := by omega
    have h2 : k = j := by omega
    subst h1 h2
    rw [if_pos rfl, if_pos (by omega)]
    unfold setT
    rw [if_pos (by omega)]
  · rw [if_neg hqj, r q j hq hj]
    unfold setT
    congr 2
    by_cases hc : q = p ∧ f ≤ j ∧ j < k
    · rw [if_pos hc, if_pos (by omega)]
    · rw [if_neg hc, if_neg (by omega)]

set_option maxHeartbeats 4000000 in
theorem i_set (b p f t : Nat) (on : Bool) (T : Nat → Nat → Bool) (w : World) (hp : p < 10) (hft : f ≤ t) (ht : t ≤ 168) (hT : TabR w b T) :
    Calls Try.prog 54 #[.pointer (some ⟨b, 0, none⟩), .int .i64 p, .int .i64 f, .int .i64 t, .bool on] w fun e w' => e = .returned (.tuple #[]) ∧ TabR w' b (setT T p f t on) ∧ (∀ u, Gw u w → u.heap.size ≤ b → Gw u w') := by
  have HT := Lib.hid hT
  clear hT
  go_enter Try.func54, Try.ntmps54
  go_wp2_with fail
  go_loopw [10] (fun q wr => ∃ k : Nat, q = .int .i64 k ∧ f ≤ k ∧ k ≤ t ∧ TabR wr b (setT T p f k on) ∧ (∀ u, Gw u w → u.heap.size ≤ b → Gw u wr)) (fun q _ => t - (intOf q).toNat)
  case atStart => exact ⟨f, by go_num, Nat.le_refl _, hft, by rw [setT_none]; exact HT.out, fun u h _ => h⟩
  case round =>
    obtain ⟨k, rfl, hk1, hk2, htab, hgr⟩ := hrel
    by_cases hlt : k < t
    · have hk : k < 168 := by omega
      have hz : (p : Int) < 10 := by omega
      have hz2 : (k : Int) < 168 := by omega
      have hc := htab.cell hp hk
      have hf := htab.free (p * 168 + k)
      have hq := Lib.hid (htab.set hp hk1 hk)
      go_wp2_with fail
      go_roundw
      case rel => exact ⟨k + 1, by go_num, by omega, by omega, hq.out, fun u h1 h2 => (hgr u h1 h2).set h2 _⟩
      case measure => simp [intOf]; omega
    · obtain rfl : k = t := by omega
      go_wp2_with fail
      go_end0
      exact ⟨rfl, htab, hgr⟩

theorem zeroTable : Try.zeroCells111 = Z1680 := by kernel_rfl
attribute [irreducible] Z1680
theorem TabR.new (w : World) : TabR (w.alloc (.cells Try.zeroCells111 111)) w.heap.size (fun _ _ => false) := by
  rw [zeroTable]
  refine ⟨_, BoxR.new _ _ _, by unfold Z1680; simp, fun p h hp hh => z_get _ (by omega)⟩
/-- The table of a list of windows. -/
def tabOf (W : List W3) : Nat → Nat → Bool := fun p h => W.any fun x => decide (x.1 = (p : Int) ∧ x.2.1 ≤ (h : Int) ∧ (h : Int) < x.2.2)
theorem tabOf_take {W : List W3} {k p f t : Nat} (hx : W[k]? = some ((p : Int), (f : Int), (t : Int))) : tabOf (W.take (k + 1)) = setT (tabOf (W.take k)) p f t true := by
  funext q h
  obtain ⟨hk, he⟩ := List.getElem?_eq_some_iff.1 hx
  unfold tabOf setT
  rw [List.take_add_one, hx, Option.toList_some, List.any_append, List.any_cons, List.any_nil, Bool.or_false]
  dsimp only
  by_cases hc : q = p ∧ f ≤ h ∧ h < t
  · rw [if_pos hc]
    rw [show decide ((p : Int) = (q : Int) ∧ (f : Int) ≤ (h : Int) ∧ (h : Int) < (t : Int)) = true by simp; omega]
    simp
  · rw [if_neg hc]
    rw [show decide ((p : Int) = (q : Int) ∧ (f : Int) ≤ (h : Int) ∧ (h : Int) < (t : Int)) = false by simp; omega]
    simp

theorem tabOf_nil : tabOf [] = fun _ _ => false := by
  funext p h
  rfl
theorem winP_nat {x : W3} (h : WinP x.1 x.2.1 x.2.2) : ∃ p f t : Nat, x = ((p : Int), (f : Int), (t : Int)) ∧ 1 ≤ p ∧ p < 10 ∧ f < t ∧ t ≤ 168 := by
  obtain ⟨x1, x2, x3⟩ := x
  dsimp only at h
  obtain ⟨p, rfl⟩ := Int.eq_ofNat_of_zero_le (show 0 ≤ x1 by omega)
  obtain ⟨f, rfl⟩ := Int.eq_ofNat_of_zero_le (show 0 ≤ x2 by omega)
  obtain ⟨t, rfl⟩ := Int.eq_ofNat_of_zero_le (show 0 ≤ x3 by omega)
  exact ⟨p, f, t, rfl, by omega, by omega, by omega, by omega⟩

set_option maxHeartbeats 4000000 in
theorem i_tableOf (A : Option Addr) (c : Nat) (W : List W3) (w : World) (hl : W.length ≤ 1048576) (hA : Rd w A W) (hW : WinsP W) :
    Calls Try.prog 53 #[.slice A W.length c] w fun e w' => e = .returned (.pointer (some ⟨w.heap.size, 0, none⟩)) ∧ TabR w' w.heap.size (tabOf W) ∧ Gw w w' := by
  have HA := Lib.hid hA
  have HW := Lib.hid hW
  clear hA hW
  have HZ := Lib.hid (TabR.new w)
  go_enter Try.func53, Try.ntmps53
  go_wp2_with fail
  go_loopw [10] (fun q wr => ∃ k : Nat, q = .int .i64 k ∧ k ≤ W.length ∧ TabR wr w.heap.size (tabOf (W.take k)) ∧ Gw w wr) (fun q _ => W.length - (intOf q).toNat)
  case atStart => exact ⟨0, by go_num, Nat.zero_le _, by rw [List.take_zero, tabOf_nil]; exact HZ.out, (Gw.refl _).alloc _⟩
  case round =>
    obtain ⟨k, rfl, hk, htab, hgw⟩ := hrel
    by_cases hlt : k < W.length
    · obtain ⟨x, hx⟩ := get_of_lt hlt
      obtain ⟨p, f, t, rfl, h1, h2, h3, h4⟩ := winP_nat (HW.out.1 _ (mem_of_get hx))
      obtain ⟨b, off, rfl, hb, c0, c1, c2⟩ := (HA.out.gw hgw).get3 hx
      have Hx := Lib.hid hx
      clear hx
      dsimp only at c0 c1 c2
      have hlt2 := htab.lt
      go_wp2_with fail
      refine (i_set w.heap.size p f t true _ _ h2 (by omega) h4 (htab.gw (by (repeat (first | with_reducible exact Gw.refl _ | with_reducible assumption | ((with_reducible refine Gw.set ?_ ?_ _); rotate_left; (focus (first | (simp; done) | (simp; omega) | omega))) | with_reducible refine Gw.alloc ?_ _ | with_reducible refine Gw.drew ?_ | with_reducible refine Gw.drewN ?_ _ | (refine Gw.trans ?_ (by with_reducible assumption))))))).mono ?_
      rintro _ w2 ⟨rfl, htab2, hg2⟩
      go_wp2_with fail
      go_roundw
      case rel => exact ⟨k + 1, by go_num, by omega, by rw [tabOf_take Hx.out]; exact htab2, hg2 w (by (repeat (first | with_reducible exact Gw.refl _ | with_reducible assumption | ((with_reducible refine Gw.set ?_ ?_ _); rotate_left; (focus (first | (simp; done) | (simp; omega) | omega))) | with_reducible refine Gw.alloc ?_ _ | with_reducible refine Gw.drew ?_ | with_reducible refine Gw.drewN ?_ _ | (refine Gw.trans ?_ (by with_reducible assumption))))) (Nat.le_refl _)⟩
      case measure => simp [intOf]; omega
    · obtain rfl : k = W.length := by omega
      rw [List.take_length] at htab
      go_wp2_with fail
      go_ret
      exact ⟨rfl, htab, hgw⟩

/-- What the program's table gives. -/
def winF (T : Nat → Nat → Bool) : List W3 × Bool := if (wtab T 10).length ≤ 20 then (wtab T 10, true) else ([], false)
def NoEnd (l : List W3) (p h : Nat) : Prop := ∀ x ∈ l, ¬(x.1 = (p : Int) ∧ x.2.2 = (h : Int))
theorem WOk.noEnd {p h : Nat} {l : List W3} (k : WOk p h l) {h' : Nat} (hh : h < h' ∨ h' = 0) : NoEnd l p h' := by
  intro x hx ⟨h1, h2⟩
  have := k.1 x hx
  omega

theorem run_next {T : Nat → Nat → Bool} {P h t : Nat} {acc : List W3} (H0 : ∀ h, T 0 h = false) (hP1 : 1 ≤ P) (hht : h ≤ t) (ht : t ≤ 168) (hT : T P h = true) (hlt : h < 168) (hall : ∀ j, h ≤ j → j < t → T P j = true) (hend : t = 168 ∨ T P t = false) (hacc : acc = wrow T P (min h 168) (wtab T P) ∧ NoEnd acc P h) :
    acc ++ [((P : Int), (h : Int), (t : Int))] = wrow T P (min (t + 1) 168) (wtab T P) ∧ NoEnd (acc ++ [((P : Int), (h : Int), (t : Int))]) P (t + 1) := by
  have hne : h ≠ t := by
    rintro rfl
    rcases hend with e | e
    · omega
    · rw [hT] at e; cases e
  obtain ⟨n, rfl⟩ : ∃ n, t = h + (n + 1) := ⟨t - h - 1, by omega⟩
  obtain ⟨ha, hn⟩ := hacc
  rw [show min h 168 = h by omega] at ha
  have hr := wrow_run (T := T) (p := P) (f := h) (l := wtab T P) (by rw [← ha]; exact hn) n hall
  rw [ha, ← hr]
  refine ⟨?_, (wrow_ok (wtab_ok H0 P) (.inl hP1) (h + (n + 1)) ht).noEnd (.inl (by omega))⟩
  rcases hend with e | e
  · rw [show min (h + (n + 1) + 1) 168 = h + (n + 1) by omega]
  · by_cases h168 : h + (n + 1) = 168
    · rw [show min (h + (n + 1) + 1) 168 = h + (n + 1) by omega]
    · rw [show min (h + (n + 1) + 1) 168 = h + (n + 1) + 1 by omega, wrow_off e]
theorem winF_lt {T : Nat → Nat → Bool} (h : (wtab T 10).length ≤ 20) : winF T = (wtab T 10, true) := by unfold winF; rw [if_pos h]
theorem winF_ge {T : Nat → Nat → Bool} (h : ¬(wtab T 10).length ≤ 20) : winF T = ([], false) := by unfold winF; rw [if_neg h]

set_option maxHeartbeats 4000000 in
set_option maxRecDepth 20000 in
theorem i_windows (b : Nat) (T : Nat → Nat → Bool) (w : World) (h0 : ∀ h, T 0 h = false) (hT : TabR w b T) :
    Calls Try.prog 55 #[.pointer (some ⟨b, 0, none⟩)] w fun e w' => ∃ A c, e = .returned (.tuple #[.slice A (winF T).1.length c, .bool (winF T).2]) ∧
      w'.ownsRow w.heap.size 71 3 (.slice A (winF T).1.length c) (winF T).1.length (flat (winF T).1) ∧ Gw w w' := by
  obtain ⟨i0, hi, hz0, hz1, hz2⟩ := info_parts infoWindow
  have HT := Lib.hid hT
  have H0 := Lib.hid h0
  clear hT h0
  go_enter Try.func55, Try.ntmps55
  go_wp2_with fail
  go_loopw [4, 5, 6, 7] (fun o q _ _ wr => ∃ (P : Nat) (acc : List W3) (D : Option Addr) (d : Nat), q = .int .i64 P ∧ 1 ≤ P ∧ P ≤ 10 ∧ o = .slice D acc.length d ∧ Hid (acc = wtab T P) ∧ wr.ownsRow w.heap.size 71 3 (.slice D acc.length d) acc.length (flat acc) ∧ Gw w wr) (fun _ q _ _ _ => 10 - (intOf q).toNat)
  case atStart => exact ⟨1, [], some ⟨w.heap.size, 0, none⟩, 0, by go_num, Nat.le_refl _, by omega, rfl, (wtab_zero H0.out).symm, World.ownsRow_made w #[] 0 (Nat.le_refl _) (by simp [maxLen]) (by simp), by (repeat (first | with_reducible exact Gw.refl _ | with_reducible assumption | ((with_reducible refine Gw.set ?_ ?_ _); rotate_left; (focus (first | (simp; done) | (simp; omega) | omega))) | with_reducible refine Gw.alloc ?_ _ | with_reducible refine Gw.drew ?_ | with_reducible refine Gw.drewN ?_ _ | (refine Gw.trans ?_ (by with_reducible assumption))))⟩
  case round =>
    obtain ⟨P, acc, D, d, rfl, hP1, hP2, rfl, hacc, hown, hgw⟩ := hrel
    by_cases hlt : P < 10
    · have hd9 : decide ((P : Int) ≤ 9) = true := by simp; omega
      go_wp2_with fail
      go_loopw [4, 6, 7] (fun o q _ wr => ∃ (h : Nat) (acc : List W3) (D : Option Addr) (d : Nat), q = .int .i64 h ∧ h ≤ 169 ∧ o = .slice D acc.length d ∧ Hid (acc = wrow T P (min h 168) (wtab T P) ∧ NoEnd acc P h) ∧ wr.ownsRow w.heap.size 71 3 (.slice D acc.length d) acc.length (flat acc) ∧ Gw w wr) (fun _ q _ _ => 170 - (intOf q).toNat)
      case atStart => exact ⟨0, acc, D, d, by go_num, by omega, rfl, ⟨hacc.out, by rw [hacc.out]; exact (wtab_ok H0.out P).noEnd (.inr rfl)⟩, hown, hgw⟩
      case round =>
        clear hown hgw hacc
        obtain ⟨h, acc, D, d, rfl, hh, rfl, hacc, hown, hgw⟩ := hrel
        by_cases hlt2 : h < 168
        · have htab := HT.out.gw hgw
          have hcell := htab.cell hlt hlt2
          have hpz : (P : Int) < 10 := by omega
          have hhz : (h : Int) < 168 := by omega
          have hmin : min h 168 = h := by omega
          have hok := Lib.hid (wrow_ok (T := T) (p := P) (wtab_ok H0.out P) (.inl hP1) h (by omega))
          cases htp : T P h with
          | false =>
            rw [htp] at hcell
            have hnext : Hid (acc = wrow T P (min (h + 1) 168) (wtab T P) ∧ NoEnd acc P (h + 1)) := by
              have h1 := hacc.out.1
              rw [hmin] at h1
              refine ⟨by rw [show min (h + 1) 168 = h + 1 by omega, wrow_off htp]; exact h1, ?_⟩
              rw [h1]
              exact hok.out.noEnd (.inl (by omega))
            have Htp := Lib.hid htp
            clear htp
            go_wp2_with fail
            go_roundw
            case rel => exact ⟨h + 1, acc, D, d, by go_num, by omega, rfl, hnext, hown, hgw⟩
            case measure => simp [intOf]; omega
          | true =>
            rw [htp] at hcell
            have Htp := Lib.hid htp
            clear htp
            go_wp2_with fail
            obtain ⟨wo, rfl⟩ : ∃ wo : World, wo = wr := ⟨_, rfl⟩
            have hgz := hgw.size
            have hlen : acc.length ≤ 1680 := by
              have h1 := wrow_len T P (wtab T P) (min h 168)
              have h2 := wtab_len T P
              rw [hacc.out.1]
              omega
            go_loopw [7] (fun q w3 => wo = w3 ∧ ∃ t : Nat, q = .int .i64 t ∧ h ≤ t ∧ t ≤ 168 ∧ Hid (∀ j, h ≤ j → j < t → T P j = true)) (fun q _ => 168 - (intOf q).toNat)
            case atStart => exact ⟨rfl, h, by go_num, Nat.le_refl _, by omega, fun j h1 h2 => absurd h1 (by omega)⟩
            case round =>
              obtain ⟨rfl, t, rfl, ht1, ht2, hall⟩ := hrel
              by_cases hlt3 : t < 168
              · have htz : (t : Int) < 168 := by omega
                have hcell2 := htab.cell hlt hlt3
                cases htt : T P t with
                | true =>
                  have hall2 : Hid (∀ j, h ≤ j → j < t + 1 → T P j = true) := fun j h1 h2 => by
                    by_cases e : j = t
                    · rw [e]; exact htt
                    · exact hall.out j h1 (by omega)
                  rw [htt] at hcell2
                  clear htt
                  go_wp2_with fail
                  go_roundw
                  case rel => exact ⟨(by first | exact rfl | trivial), t + 1, by go_num, by omega, by omega, hall2⟩
                  case measure => simp [intOf]; omega
                | false =>
                  rw [htt] at hcell2
                  have hnx := Lib.hid (run_next H0.out hP1 ht1 ht2 Htp.out hlt2 hall.out (.inr htt) hacc.out)
                  clear htt
                  go_wp2_with (at_builtin; go_loud (refine wpList_push (α := W3) rfl (.tmp 39) (.tmp 44) 29 rfl w.heap.size 71 i0 _ 24 Try.underlying29 hi hz0 hz1 hz2 rfl (by omega) acc D d rfl wo ((P : Int), (h : Int), (t : Int)) rfl wo.heap.size rfl rfl hown (by omega) hgz ?_); intro acc' A' c'' w9 hacc' hl1 hl2 hown' _ hgg)
                  go_roundw
                  case rel => exact ⟨t + 1, acc', A', c'', by go_num, by omega, rfl, by unfold Hid; rw [hacc'.out]; exact hnx.out, hown', hgg w hgw (Nat.le_refl _)⟩
                  case measure => simp [intOf]; omega
              · obtain rfl : t = 168 := by omega
                have hnx := Lib.hid (run_next H0.out hP1 ht1 ht2 Htp.out hlt2 hall.out (.inl rfl) hacc.out)
                
                go_wp2_with (at_builtin; go_loud (refine wpList_push (α := W3) rfl (.tmp 39) (.tmp 44) 29 rfl w.heap.size 71 i0 _ 24 Try.underlying29 hi hz0 hz1 hz2 rfl (by omega) acc D d rfl wo ((P : Int), (h : Int), (168 : Int)) rfl wo.heap.size rfl rfl hown (by omega) hgz ?_); intro acc' A' c'' w9 hacc' hl1 hl2 hown' _ hgg)
                go_roundw
                case rel => exact ⟨169, acc', A', c'', by go_num, by omega, rfl, by unfold Hid; rw [hacc'.out]; exact hnx.out, hown', hgg w hgw (Nat.le_refl _)⟩
                case measure => simp [intOf]; omega
        · have hend : Hid (acc = wtab T (P + 1)) := by
            unfold Hid
            rw [hacc.out.1, show min h 168 = 168 by omega]
            rfl
          go_wp2_with fail
          go_roundw
          case rel => exact ⟨P + 1, acc, D, d, by go_num, by omega, by omega, rfl, hend, hown, hgw⟩
          case measure => simp [intOf]; omega
    · obtain rfl : P = 10 := by omega
      have hlen : acc.length ≤ 1680 := by rw [hacc.out]; exact wtab_len T 10
      by_cases h20 : acc.length ≤ 20
      · have hst : Hid (winF T = (acc, true)) := by unfold Hid; rw [winF_lt (by rw [← hacc.out]; exact h20), ← hacc.out]
        go_wp2_with fail
        go_ret2
        exact ⟨D, d, ret_lb hst.out, by rw [hst.out]; exact hown, hgw⟩
      · have hst : Hid (winF T = ([], false)) := winF_ge (by rw [← hacc.out]; exact h20)
        go_wp2_with fail
        go_ret2
        exact ⟨none, 0, ret_lb (A := none) (c := 0) hst.out, by rw [hst.out]; exact World.ownsRow_nil _ _ _ _, hgw⟩
end Go.Proofs.Ytipndibiioajmaa
