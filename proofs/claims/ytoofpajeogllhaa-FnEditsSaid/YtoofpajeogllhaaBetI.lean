/-
  Edits between two charts: the program's way.
-/
import Derived.Test.YtoofpajeogllhaaBetS
import Derived.Test.YtoofpajeogllhaaDelI
namespace Go.Proofs.Ytoofpajeogllhaa
open Go.RowKit

abbrev nI (l : List Nat) : List Int := List.map (fun (i : Nat) => (i : Int)) l
theorem chgF_bad {a b : List Sp} (h : ¬PairP a b) : chgF a b = ([], false) := by unfold chgF; rw [if_neg h]
theorem chgF_good {a b : List Sp} (h : PairP a b) : chgF a b = (diffs a b, true) := by unfold chgF; rw [if_pos h]
theorem ret_nb {f : List Nat × Bool} {A : Option Addr} {c n : Nat} {l : List Nat} {b : Bool} (h : f = (l, b)) (hn : l.length = n) : Ending.returned (.tuple #[.slice A n c, .bool b]) = .returned (.tuple #[.slice A f.1.length c, .bool f.2]) := by rw [h, ← hn]

set_option maxHeartbeats 4000000 in
set_option maxRecDepth 100000 in
theorem i_ChangedSpots (A : Option Addr) (cA : Nat) (a : List Sp) (B : Option Addr) (cB : Nat) (b : List Sp) (w : World) (hla : a.length ≤ 1048576) (hA : Rd w A a) (hca : a.length ≤ cA) (hlb : b.length ≤ 1048576) (hB : Rd w B b) (hcb : b.length ≤ cB) :
    Calls Try.prog 19 #[.slice A a.length cA, .slice B b.length cB] w fun e w' => ∃ A c, e = .returned (.tuple #[.slice A (chgF a b).1.length c, .bool (chgF a b).2]) ∧
      w'.ownsRow w.heap.size 3 1 (.slice A (chgF a b).1.length c) (chgF a b).1.length (flat (nI (chgF a b).1)) ∧ Gw w w' := by
  obtain ⟨i0, hi, hz0, hz1, hz2⟩ := info_parts infoInt
  have HB := Lib.hid hB
  have HA := Lib.hid hA
  go_enter Try.func19, Try.ntmps19
  go_wp2_with fail
  refine (i_IsChart _ _ _ _ hla hA hca).mono ?_
  rintro _ w1 (⟨hp, rfl, hb1⟩ | ⟨hp, rfl, hb1⟩)
  case inr =>
    have hno := Lib.hid (chgF_bad (a := a) (b := b) (fun h => hp h.1.1))
    clear hp
    go_wp2_with fail
    go_ret2
    exact ⟨none, 0, ret_nb (A := none) (c := 0) hno.out rfl, by rw [hno.out]; exact World.ownsRow_nil _ _ _ _, by (repeat (first | with_reducible exact Gw.refl _ | with_reducible assumption | ((with_reducible refine Gw.set ?_ ?_ _); rotate_left; (focus (first | (simp; done) | (simp; omega) | omega))) | with_reducible refine Gw.alloc ?_ _ | with_reducible refine Gw.drew ?_ | with_reducible refine Gw.drewN ?_ _ | (refine Gw.trans ?_ (by with_reducible assumption))))⟩
  have H1 := Lib.hid hp
  clear hp
  go_wp2_with fail
  refine (i_IsChart _ _ _ _ hlb (hB.gw hb1) hcb).mono ?_
  rintro _ w2 (⟨hp, rfl, hb2⟩ | ⟨hp, rfl, hb2⟩)
  case inr =>
    have hno := Lib.hid (chgF_bad (a := a) (b := b) (fun h => hp h.1.2))
    clear hp
    go_wp2_with fail
    go_ret2
    exact ⟨none, 0, ret_nb (A := none) (c := 0) hno.out rfl, by rw [hno.out]; exact World.ownsRow_nil _ _ _ _, by (repeat (first | with_reducible exact Gw.refl _ | with_reducible assumption | ((with_reducible refine Gw.set ?_ ?_ _); rotate_left; (focus (first | (simp; done) | (simp; omega) | omega))) | with_reducible refine Gw.alloc ?_ _ | with_reducible refine Gw.drew ?_ | with_reducible refine Gw.drewN ?_ _ | (refine Gw.trans ?_ (by with_reducible assumption))))⟩
  have H2 := Lib.hid hp
  clear hp hA hB
  have hG2 : Gw w w2 := Gw.trans hb1 hb2
  by_cases hab : a.length = b.length
  case neg =>
    have hno := Lib.hid (chgF_bad (a := a) (b := b) (fun h => hab h.2))
    have e1 : ((a.length : Int) == (b.length : Int)) = false := by simp; omega
    have Hab := Lib.hid hab
    clear hab
    go_wp2_with fail
    all_goals
      first
        | (exfalso; have := Hab.out; omega)
        | (go_ret2
           exact ⟨none, 0, ret_nb (A := none) (c := 0) hno.out rfl, by rw [hno.out]; exact World.ownsRow_nil _ _ _ _, by (repeat (first | with_reducible exact Gw.refl _ | with_reducible assumption | ((with_reducible refine Gw.set ?_ ?_ _); rotate_left; (focus (first | (simp; done) | (simp; omega) | omega))) | with_reducible refine Gw.alloc ?_ _ | with_reducible refine Gw.drew ?_ | with_reducible refine Gw.drewN ?_ _ | (refine Gw.trans ?_ (by with_reducible assumption))))⟩)
  have hv := Lib.hid (chgF_good (a := a) (b := b) ⟨⟨H1.out, H2.out⟩, hab⟩)
  have e1 : ((a.length : Int) == (b.length : Int)) = true := by simp; omega
  have e2 : decide ((a.length : Int) = (b.length : Int)) = true := by simp; omega
  obtain ⟨L, hL⟩ : ∃ L, Hid (a.length = L) := ⟨_, rfl⟩
  have hbl : Hid (b.length = L) := by unfold Hid; rw [← hab]; exact hL.out
  have Hab := Lib.hid hab
  clear hab
  rw [hL.out, hbl.out] at e1 e2 ⊢
  rw [hL.out] at hla
  go_wp2_with fail
  go_loopw [6, 26] (fun o q wr => ∃ (k : Nat) (acc : List Int) (D : Option Addr) (d : Nat), q = .int .i64 k ∧ k ≤ L ∧ o = .slice D acc.length d ∧ acc.length ≤ k ∧ wr.ownsRow w.heap.size 3 1 (.slice D acc.length d) acc.length (flat acc) ∧ Hid (acc = nI (diffTo a b k)) ∧ Gw w wr) (fun _ q _ => L - (intOf q).toNat)
  case atStart => exact ⟨0, [], some ⟨w2.heap.size, 0, none⟩, 0, by go_num, Nat.zero_le _, rfl, by simp, World.ownsRow_made w2 #[] 0 hG2.size (by simp [maxLen]) (by simp), rfl, by (repeat (first | with_reducible exact Gw.refl _ | with_reducible assumption | ((with_reducible refine Gw.set ?_ ?_ _); rotate_left; (focus (first | (simp; done) | (simp; omega) | omega))) | with_reducible refine Gw.alloc ?_ _ | with_reducible refine Gw.drew ?_ | with_reducible refine Gw.drewN ?_ _ | (refine Gw.trans ?_ (by with_reducible assumption))))⟩
  case round =>
    obtain ⟨k, acc, D, d, rfl, hk, rfl, ha1, hown, hacc, hgw⟩ := hrel
    by_cases hkl : k < L
    · obtain ⟨x, hx⟩ := get_of_lt (l := a) (k := k) (by rw [hL.out]; exact hkl)
      obtain ⟨y, hy⟩ := get_of_lt (l := b) (k := k) (by rw [hbl.out]; exact hkl)
      obtain ⟨b1, off1, rfl, hbb1, c0, c1⟩ := (HA.out.gw hgw).get2 hx
      obtain ⟨b2, off2, rfl, hbb2, d0, d1⟩ := (HB.out.gw hgw).get2 hy
      obtain ⟨x1, x2⟩ := x
      obtain ⟨y1, y2⟩ := y
      dsimp only at c0 c1 d0 d1
      have hgz := hgw.size
      by_cases hxy : (x1, x2) = (y1, y2)
      · have hs : a[k]? = b[k]? := by rw [hx, hy, hxy]
        have hn : Hid (acc = nI (diffTo a b (k + 1))) := by unfold Hid; rw [diffTo_succ_no hs]; exact hacc.out
        have e1 : (x1 == y1) = true := by simp at hxy; simp [hxy.1]
        have e2 : (x2 == y2) = true := by simp at hxy; simp [hxy.2]
        clear hs hx hy hxy
        go_wp2_with ((with_reducible refine wp_region_gw (by kernel_rfl) (by kernel_rfl) ?_); have hcq := @GwOf.cell; (repeat (go_big_quiet_step (fail))); refine wpQuiet_nil ?_; clear hcq; rintro w' ⟨⟨w', hb⟩, rfl⟩; (try dsimp only); have hc := hb.cells; have hf := hb.frozens; have hz := hb.size; (try simp at hz); (try have hz0 : w.heap.size < w'.heap.size := (by omega)); (try have hz1 : w.heap.size + 1 < w'.heap.size := (by omega)); (try have hz2 : w.heap.size + 2 < w'.heap.size := (by omega)); (try have hz3 : w.heap.size + 3 < w'.heap.size := (by omega)); (try have hz4 : w.heap.size + 4 < w'.heap.size := (by omega)); (try have hz5 : w.heap.size + 5 < w'.heap.size := (by omega)))
        go_roundw
        case rel => exact ⟨k + 1, acc, D, d, by go_num, by omega, rfl, by omega, own_gw hown (by (repeat (first | with_reducible exact Gw.refl _ | with_reducible assumption | ((with_reducible refine Gw.set ?_ ?_ _); rotate_left; (focus (first | (simp; done) | (simp; omega) | omega))) | with_reducible refine Gw.alloc ?_ _ | with_reducible refine Gw.drew ?_ | with_reducible refine Gw.drewN ?_ _ | (refine Gw.trans ?_ (by with_reducible assumption))))), hn, by (repeat (first | with_reducible exact Gw.refl _ | with_reducible assumption | ((with_reducible refine Gw.set ?_ ?_ _); rotate_left; (focus (first | (simp; done) | (simp; omega) | omega))) | with_reducible refine Gw.alloc ?_ _ | with_reducible refine Gw.drew ?_ | with_reducible refine Gw.drewN ?_ _ | (refine Gw.trans ?_ (by with_reducible assumption))))⟩
        case measure => simp [intOf]; omega
      · have hs : a[k]? ≠ b[k]? := by rw [hx, hy]; simpa using hxy
        have hn : Hid (acc ++ [(k : Int)] = nI (diffTo a b (k + 1))) := by unfold Hid; rw [diffTo_succ_yes hs, hacc.out]; simp [nI]
        clear hs hx hy
        by_cases h4 : x1 = y1
        all_goals
          first
            | (have e1 : (x1 == y1) = true := by simp [h4]
               have h5 : ¬(x2 = y2) := fun h => hxy (by rw [h4, h])
               have e2 : (x2 == y2) = false := by simp [h5]
               clear h5)
            | (have e1 : (x1 == y1) = false := by simp [h4])
          clear hxy h4
          go_wp2_with (first | ((with_reducible refine wp_region_gw (by kernel_rfl) (by kernel_rfl) ?_); have hcq := @GwOf.cell; (repeat (go_big_quiet_step (fail))); refine wpQuiet_nil ?_; clear hcq; rintro w' ⟨⟨w', hb⟩, rfl⟩; (try dsimp only); have hc := hb.cells; have hf := hb.frozens; have hz := hb.size; (try simp at hz); (try have hz0 : w.heap.size < w'.heap.size := (by omega)); (try have hz1 : w.heap.size + 1 < w'.heap.size := (by omega)); (try have hz2 : w.heap.size + 2 < w'.heap.size := (by omega)); (try have hz3 : w.heap.size + 3 < w'.heap.size := (by omega)); (try have hz4 : w.heap.size + 4 < w'.heap.size := (by omega)); (try have hz5 : w.heap.size + 5 < w'.heap.size := (by omega))) | (at_builtin; have hown2 := own_gw hown hb; have hgw2 := Gw.trans hgw hb; have hgz2 := hgw2.size; refine wpList_push (α := Int) rfl (.tmp 38) (.tmp 40) 46 rfl w.heap.size 3 i0 _ 8 Try.underlying46 hi hz0 hz1 hz2 rfl (by omega) acc D d rfl w' (k : Int) rfl _ rfl rfl hown2 (by omega) (by omega) ?_; intro acc' A' c'' w9 hacc' hl1 hl2 hown' _ hgg))
          go_roundw
          case rel => exact ⟨k + 1, acc', A', c'', by go_num, by omega, rfl, by omega, hown', by unfold Hid; rw [hacc'.out]; exact hn.out, hgg w (by (repeat (first | with_reducible exact Gw.refl _ | with_reducible assumption | ((with_reducible refine Gw.set ?_ ?_ _); rotate_left; (focus (first | (simp; done) | (simp; omega) | omega))) | with_reducible refine Gw.alloc ?_ _ | with_reducible refine Gw.drew ?_ | with_reducible refine Gw.drewN ?_ _ | (refine Gw.trans ?_ (by with_reducible assumption))))) (Nat.le_refl _)⟩
          case measure => simp [intOf]; omega
    · have hkL : Hid (k = L) := by unfold Hid; omega
      have hal : Hid (acc = nI (diffs a b)) := by rw [hacc.out, hkL.out, ← hL.out]; exact rfl
      have hll : Hid ((diffs a b).length = acc.length) := by unfold Hid; rw [hal.out]; simp [nI]
      go_wp2_with fail
      go_ret2
      exact ⟨D, d, ret_nb hv.out hll.out, by rw [hv.out]; dsimp only; rw [hll.out, ← hal.out]; exact hown, hgw⟩
end Go.Proofs.Ytoofpajeogllhaa
