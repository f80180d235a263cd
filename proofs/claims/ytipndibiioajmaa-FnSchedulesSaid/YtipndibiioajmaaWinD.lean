/-
  Draws of windows.
-/
import Derived.Test.YtipndibiioajmaaCur
import Derived.Test.YtipndibiioajmaaTell
import Derived.Test.YtipndibiioajmaaPush
import Derived.Test.YtipndibiioajmaaTab
import Derived.Deep.RegionHeld3
namespace Go.Proofs.Ytipndibiioajmaa
open Go.RowKit

abbrev Tm (v : Int) : Prop := -1000000 ≤ v ∧ v ≤ 1000000
def WinB (l : List W3) : Prop := ∀ x ∈ l, Tm x.1 ∧ Tm x.2.1 ∧ Tm x.2.2
theorem WinB.nil : WinB [] := fun x h => by simp at h
theorem WinB.snoc {l : List W3} {x : W3} (h : WinB l) (h1 : Tm x.1) (h2 : Tm x.2.1) (h3 : Tm x.2.2) : WinB (l ++ [x]) := by
  intro y hy
  rcases List.mem_append.1 hy with hy | hy
  · exact h y hy
  · simp at hy; subst hy; exact ⟨h1, h2, h3⟩
theorem WinB.take {l : List W3} (h : WinB l) (n : Nat) : WinB (l.take n) := fun x hx => h x (List.mem_of_mem_take hx)
/-- What a draw of valid windows keeps. -/
def WinT (l : List W3) : Prop := ∀ x ∈ l, (0 ≤ x.1 ∧ x.1 ≤ 999) ∧ (0 ≤ x.2.1 ∧ x.2.1 ≤ 999) ∧ 0 ≤ x.2.2 ∧ x.2.2 ≤ 999
theorem WinT.bd {l : List W3} (h : WinT l) : WinB l := fun x hx => by
  have := h x hx
  unfold Tm
  omega
theorem WinT.nil : WinT [] := fun x h => by simp at h
theorem WinT.snoc {l : List W3} {x : W3} (h : WinT l) (h1 : 0 ≤ x.1 ∧ x.1 ≤ 999) (h2 : 0 ≤ x.2.1 ∧ x.2.1 ≤ 999) (h3 : 0 ≤ x.2.2 ∧ x.2.2 ≤ 999) : WinT (l ++ [x]) := by
  intro y hy
  rcases List.mem_append.1 hy with hy | hy
  · exact h y hy
  · simp at hy; subst hy; exact ⟨h1, h2, h3⟩
theorem WinT.take {l : List W3} (h : WinT l) (n : Nat) : WinT (l.take n) := fun x hx => h x (List.mem_of_mem_take hx)
theorem own_grow {w w' : World} {base : Nat} {e : TypeId} {size n : Nat} {v : Value} {xs : List Value} {g : Nat} (h : w.ownsRow base e size v n xs) (hg : w.grownBy w' (some g)) (hb : g < base) : w'.ownsRow base e size v n xs := by
  refine h.kept hg ?_
  cases hv : v.ownBlock with
  | none => exact .inl rfl
  | some k =>
    have h1 := (h.lt k hv).1
    exact .inr fun he => absurd (Option.some.inj he) (by omega)

theorem grow_push {w wo w9 : World} {g : Nat} {row : Option Nat} (h : w.grownBy wo (some g)) (hg : wo.grownBy w9 row) (hr : ∀ k, row = some k → w.heap.size ≤ k) : w.grownBy w9 (some g) :=
  ⟨hg.os.trans h.os, hg.tape.trans h.tape, hg.output.trans h.output, Nat.le_trans h.size hg.size, fun i hi hne => (hg.block i (Nat.lt_of_lt_of_le hi h.size) (fun e => by have := hr i e.symm; omega)).trans (h.block i hi hne)⟩
theorem cur_push {w0 w wo w9 : World} {g m : Nat} {row : Option Nat} (hC : CurP w0 wo g m) (hlt : g < w.heap.size) (hw0 : w0.heap.size ≤ w.heap.size) (hg : wo.grownBy w9 row) (hr : ∀ k, row = some k → w.heap.size ≤ k) : CurP w0 w9 g m :=
  hC.keep hg (fun k hk => Nat.le_trans hw0 (hr k hk)) (fun e => by have := hr g e.symm; omega)
theorem own_cap2 {w : World} {base n c : Nat} {A : Option Addr} {e : TypeId} {size : Nat} {xs : List Value} (h : w.ownsRow base e size (.slice A n c) n xs) : n ≤ c := by
  obtain ⟨_, _, hv, hc, _, _⟩ := own_form h
  simp only [Value.slice.injEq, true_and] at hv
  obtain ⟨rfl, rfl⟩ := hv
  exact hc
theorem flat_takeW (l : List W3) (k : Nat) : flat (l.take k) = (flat l).take (k * 3) := by
  induction l generalizing k with
  | nil => simp [flat]
  | cons x l ih =>
    cases k with
    | zero => simp [flat]
    | succ k =>
      have hf : ∀ (y : W3) (l : List W3), flat (y :: l) = .int .i64 y.1 :: .int .i64 y.2.1 :: .int .i64 y.2.2 :: flat l := fun y l => by simp [flat, Flat.cells]
      rw [List.take_succ_cons, hf, hf, ih, show (k + 1) * 3 = k * 3 + 1 + 1 + 1 by omega]
      simp
theorem own_prefixW {w : World} {base n c g k : Nat} {e : TypeId} {l : List W3} (hn : l.length = n) (h : w.ownsRow base e 3 (.slice (some ⟨g, 0, none⟩) n c) n (flat l)) (hk : k ≤ n) : w.ownsRow base e 3 (.slice (some ⟨g, 0, none⟩) k c) k (flat (l.take k)) := by
  refine ⟨by rw [flat_len, List.length_take]; show min k l.length * 3 = _; rw [hn, Nat.min_eq_left hk], ?_⟩
  rcases h.2 with ⟨hv, _⟩ | ⟨g', cap, cur, hv, hb, hg, hnc, hm, hs, ht⟩
  · cases hv
  · simp only [Value.slice.injEq, Option.some.injEq, Addr.mk.injEq, and_true, true_and] at hv
    obtain ⟨rfl, rfl⟩ := hv
    refine .inr ⟨g, c, cur, rfl, hb, hg, by omega, hm, hs, ?_⟩
    rw [flat_takeW, ← ht, List.take_take]
    congr 1
    omega
def sliceLen : Value → Nat
  | .slice _ n _ => n
  | _ => 0
theorem sliceLen_mk (A : Option Addr) (n c : Nat) : sliceLen (.slice A n c) = n := rfl
set_option maxHeartbeats 8000000 in
set_option maxRecDepth 20000 in
theorem s_windows {w0 w : World} {g m : Nat} (hC : CurP w0 w g m) (hm : m ≤ 1000000000) :
    Calls Try.prog 80 #[.pointer (some ⟨g, 0, none⟩)] w fun e w' => ∃ (l : List W3) (A : Option Addr) (c : Nat), e = .returned (.slice A l.length c) ∧ WinT l ∧ l.length ≤ 20 ∧ w'.ownsRow w.heap.size 71 3 (.slice A l.length c) l.length (flat l) ∧ CurP w0 w' g (m + 1000) ∧ w.grownBy w' (some g) := by
  obtain ⟨i0, hi, hz0, hz1, hz2⟩ := info_parts infoWindow
  have hlt := CurP.lt hC
  go_enter Try.func80, Try.ntmps80
  go_wp2_with fail
  refine (s_one w0 w g m 24 (by omega) (by omega) hC).mono ?_
  rintro _ w1 ⟨b, rfl, hC1, hr1⟩
  have hz1' := hr1.size
  have hw0 := hC.gw.size
  cases b with
  | true =>
    go_wp2_with fail
    go_loopw [3] (fun o wr => ∃ (l : List W3) (D : Option Addr) (d : Nat), o = .slice D l.length d ∧ l.length ≤ 20 ∧ Hid (WinT l) ∧ wr.ownsRow w.heap.size 71 3 (.slice D l.length d) l.length (flat l) ∧ Hid (CurP w0 wr g (m + 2) ∧ w.grownBy wr (some g))) (fun o _ => 20 - sliceLen o)
    case atStart => exact ⟨[], none, 0, rfl, by simp, WinT.nil, World.ownsRow_nil _ _ _ _, ⟨hC1, hr1⟩⟩
    case round =>
      obtain ⟨l, D, d, rfl, hl, hB, hown, hcur⟩ := hrel
      obtain ⟨wo, rfl⟩ : ∃ wo : World, wo = wr := ⟨_, rfl⟩
      have hgz : w.heap.size ≤ wo.heap.size := hcur.out.2.size
      obtain ⟨n, hn⟩ : ∃ n, Hid (l.length = n) := ⟨_, rfl⟩
      rw [hn.out] at hl hown
      by_cases hlt2 : n < 20
      · have hnz : (n : Int) < 20 := by omega
        have q1 : (n : Int).tdiv 10 = ((n / 10 : Nat) : Int) := by rw [Int.tdiv_eq_ediv_of_nonneg (by omega)]; omega
        have q2 : (n : Int).tmod 10 = ((n % 10 : Nat) : Int) := by rw [Int.tmod_eq_emod_of_nonneg (by omega)]; omega
        have q1' : (n : Int) / 10 = ((n / 10 : Nat) : Int) := by omega
        have q2' : (n : Int) % 10 = ((n % 10 : Nat) : Int) := by omega
        obtain ⟨u, hu⟩ : ∃ u, Hid (u = n / 10) := ⟨_, rfl⟩
        obtain ⟨v, hv⟩ : ∃ v, Hid (v = n % 10) := ⟨_, rfl⟩
        have hub : u ≤ 2 := by rw [hu.out]; omega
        have hvb : v ≤ 9 := by rw [hv.out]; omega
        rw [← hu.out] at q1 q1'
        rw [← hv.out] at q2 q2'
        have w1 : IntKind.i64.wrap (u : Int) = (u : Int) := IntWalk.i64_in _ (by omega)
        have w2 : IntKind.i64.wrap (1 + (u : Int)) = 1 + (u : Int) := IntWalk.i64_in _ (by omega)
        have w3 : IntKind.i64.wrap ((v : Int) * 12) = (v : Int) * 12 := IntWalk.i64_in _ (by omega)
        have w4 : IntKind.i64.wrap ((v : Int) * 12 + 4) = (v : Int) * 12 + 4 := IntWalk.i64_in _ (by omega)
        have hB2 := Lib.hid (hB.out.snoc (x := (1 + (u : Int), (v : Int) * 12, (v : Int) * 12 + 4)) (by dsimp only; omega) (by dsimp only; omega) (by dsimp only; omega))
        rw [hn.out]
        go_wp2_with (at_builtin; go_loud (refine wpList_push2 (α := W3) rfl (.tmp 13) (.tmp 28) 29 rfl w.heap.size 71 i0 _ 24 Try.underlying29 hi hz0 hz1 hz2 rfl (by omega) l D d (by rw [hn.out]; rfl) wo (1 + (u : Int), (v : Int) * 12, (v : Int) * 12 + 4) rfl wo.heap.size rfl rfl (by rw [hn.out]; exact hown) (by rw [hn.out]; omega) hgz ?_); intro acc' A' c'' w9 hacc' hl1 hl2 hown' hgr hblk _)
        rw [hn.out] at hl1 hl2
        go_roundw
        case rel => exact ⟨acc', A', c'', rfl, by omega, by unfold Hid; rw [hacc'.out]; exact hB2.out, hown', ⟨cur_push hcur.out.1 hlt hw0 hgr (by rw [hn.out]; exact fun k hk => (hown.lt k hk).1), grow_push hcur.out.2 hgr (by rw [hn.out]; exact fun k hk => (hown.lt k hk).1)⟩⟩
        case measure => simp only [sliceLen_mk]; have := hn.out; omega
      · obtain rfl : n = 20 := by omega
        rw [hn.out]
        go_wp2_with fail
        go_ret
        exact ⟨l, D, d, by rw [hn.out]; rfl, hB.out, by rw [hn.out]; omega, by rw [hn.out]; exact hown, hcur.out.1.mono (by omega), hcur.out.2⟩
  | false =>
    go_wp2_with fail
    go_loopw [3, 4, 5, 6, 7] (fun o q _ _ _ wr => ∃ (p : Nat) (l : List W3) (D : Option Addr) (d : Nat), q = .int .i64 p ∧ 1 ≤ p ∧ p ≤ 10 ∧ o = .slice D l.length d ∧ l.length ≤ 4 * (p - 1) ∧ Hid (WinT l) ∧ wr.ownsRow w.heap.size 71 3 (.slice D l.length d) l.length (flat l) ∧ Hid (CurP w0 wr g (m + 100 * p) ∧ w.grownBy wr (some g))) (fun _ q _ _ _ _ => 10 - (intOf q).toNat)
    case atStart => exact ⟨1, [], none, 0, by go_num, Nat.le_refl _, by omega, rfl, by simp, WinT.nil, World.ownsRow_nil _ _ _ _, ⟨hC1.mono (by omega), hr1⟩⟩
    case round =>
      obtain ⟨p, l, D, d, rfl, hp1, hp2, rfl, hl, hB, hown, hcur⟩ := hrel
      obtain ⟨wo, rfl⟩ : ∃ wo : World, wo = wr := ⟨_, rfl⟩
      have hgz : w.heap.size ≤ wo.heap.size := hcur.out.2.size
      by_cases hp9 : p < 10
      · have hpz : (p : Int) ≤ 9 := by omega
        go_wp2_with fail
        refine (s_one w0 wo g (m + 100 * p) 3 (by omega) (by omega) hcur.out.1).mono ?_
        rintro _ w2 ⟨b, rfl, hC2, hr2⟩
        have hgg2 : w.grownBy w2 (some g) := grownBy_trans hcur.out.2 hr2
        have hown2 := own_grow hown hr2 hlt
        cases b with
        | false =>
          go_wp2_with fail
          go_roundw
          case rel => exact ⟨p + 1, l, D, d, by go_num, by omega, by omega, rfl, by omega, hB, hown2, ⟨hC2.mono (by omega), hgg2⟩⟩
          case measure => simp [intOf] <;> omega
        | true =>
          go_wp2_with fail
          refine (c_pick (w0 := w0) hC2 (by omega) (by omega)).mono ?_
          rintro _ w3 ⟨at0, rfl, ⟨ha1, ha2, ha3⟩, hC3, hr3⟩
          have ha4 := ha3 (by omega)
          have hgg3 : w.grownBy w3 (some g) := grownBy_trans hgg2 hr3
          have hown3 := own_grow hown2 hr3 hlt
          go_wp2_with fail
          refine (c_pick (w0 := w0) hC3 (by omega) (by omega)).mono ?_
          rintro _ w4 ⟨k0, rfl, ⟨hk1, hk2, hk3⟩, hC4, hr4⟩
          have hgg4 : w.grownBy w4 (some g) := grownBy_trans hgg3 hr4
          have hown4 := own_grow hown3 hr4 hlt
          have hk3' := hk3 (by omega)
          obtain ⟨kk, rfl⟩ : ∃ kk : Nat, k0 = kk := ⟨k0.toNat, by omega⟩
          have wk : IntKind.i64.wrap (1 + (kk : Int)) = ((kk + 1 : Nat) : Int) := by rw [IntWalk.i64_in _ (by omega)]; omega
          clear hown hown2 hown3 hk3
          go_wp2_with fail
          go_loopw [3, 5, 6, 7] (fun o aq kq _ wr => ∃ (k : Nat) (a : Int) (l : List W3) (D : Option Addr) (d : Nat), kq = .int .i64 k ∧ aq = .int .i64 a ∧ k ≤ 3 ∧ (0 ≤ a ∧ a ≤ 30 + 30 * (3 - (k : Int))) ∧ o = .slice D l.length d ∧ l.length ≤ 4 * (p - 1) + (3 - k) ∧ Hid (WinT l) ∧ wr.ownsRow w.heap.size 71 3 (.slice D l.length d) l.length (flat l) ∧ Hid (CurP w0 wr g (m + 100 * p + 6 + 4 * (3 - k)) ∧ w.grownBy wr (some g))) (fun _ _ kq _ _ => (intOf kq).toNat)
          case atStart => exact ⟨kk + 1, at0, l, D, d, by go_num, by go_num, by omega, by omega, rfl, by omega, hB, hown4, ⟨hC4.mono (by omega), hgg4⟩⟩
          case round =>
            clear hB hown4 hcur hl
            obtain ⟨k, a, l, D, d, rfl, rfl, hk, ha, rfl, hl, hB, hown, hcur⟩ := hrel
            obtain ⟨wi, rfl⟩ : ∃ wi : World, wi = wr := ⟨_, rfl⟩
            by_cases hk0 : k = 0
            · subst hk0
              go_wp2_with fail
              go_roundw
              case rel => exact ⟨p + 1, l, D, d, by go_num, by omega, by omega, rfl, by omega, hB, hown, ⟨hcur.out.1.mono (by omega), hcur.out.2⟩⟩
              case measure => simp [intOf] <;> omega
            · have hkz : (0 : Int) < (k : Int) := by omega
              have wa : IntKind.i64.wrap (a + 1) = a + 1 := IntWalk.i64_in _ (by omega)
              have hgz2 : w.heap.size ≤ wi.heap.size := hcur.out.2.size
              go_wp2_with fail
              refine (c_pick (w0 := w0) hcur.out.1 (by omega) (by omega)).mono ?_
              rintro _ w5 ⟨v, rfl, ⟨hv1, hv2, hv3⟩, hC5, hr5⟩
              have hv4 := hv3 (by omega)
              have hgg5 : w.grownBy w5 (some g) := grownBy_trans hcur.out.2 hr5
              have hown5 := own_grow hown hr5 hlt
              have wb : IntKind.i64.wrap (a + 1 + v) = a + 1 + v := IntWalk.i64_in _ (by omega)
              have hz5 := hgg5.size
              have hB2 := Lib.hid (hB.out.snoc (x := ((p : Int), a, a + 1 + v)) (by dsimp only; omega) (by dsimp only; omega) (by dsimp only; omega))
              have hap := Lib.hid (own_apart hown5 (Nat.le_refl w5.heap.size))
              have bx := Lib.hid (BoxR.new w5 #[.int .i64 (p : Int), .int .i64 a, .int .i64 (a + 1 + v)] 71)
              have hownb := hown5.alloc (.cells #[.int .i64 (p : Int), .int .i64 a, .int .i64 (a + 1 + v)] 71)
              have w6 : IntKind.i64.wrap (a + 1 + v + 1) = a + 1 + v + 1 := IntWalk.i64_in _ (by omega)
              have wkk : IntKind.i64.wrap ((k : Int) - 1) = ((k - 1 : Nat) : Int) := by rw [IntWalk.i64_in _ (by omega)]; omega
              have hglt : g < w5.heap.size := hC5.lt
              clear hown hv3
              go_wp2_with (at_builtin; go_loud (refine wpList_push2 (α := W3) rfl (.tmp 55) (.tmp 57) 29 rfl w.heap.size 71 i0 _ 24 Try.underlying29 hi hz0 hz1 hz2 rfl (by omega) l D d rfl (w5.alloc (.cells #[.int .i64 (p : Int), .int .i64 a, .int .i64 (a + 1 + v)] 71)) ((p : Int), a, a + 1 + v) rfl (w5.heap.size + 1) (by simp) rfl hownb (by omega) (by simp; omega) ?_); intro acc' A' c'' w9 hacc' hl1 hl2 hown' hgr hblk _)
              have hrow : ∀ j, (Value.slice D l.length d).ownBlock = some j → w.heap.size ≤ j := fun j hj => (hownb.lt j hj).1
              have hC9 := Lib.hid (cur_push (hC5.alloc (.cells #[.int .i64 (p : Int), .int .i64 a, .int .i64 (a + 1 + v)] 71)) hlt hw0 hgr hrow)
              have hgg9 := Lib.hid (grow_push (grow_alloc hgg5 (.cells #[.int .i64 (p : Int), .int .i64 a, .int .i64 (a + 1 + v)] 71)) hgr hrow)
              have bx9 := Lib.hid (bx.out.grown hgr hap.out)
              have c9 := bx9.out.cell 2 rfl
              have Hown9 := Lib.hid hown'
              clear hown' hgr hblk hownb hown5
              go_wp2_with fail
              go_region_held3 (fun u => u.cell? ⟨w5.heap.size, 2, none⟩ = some (.int .i64 (a + 1 + v))) (first | with_reducible assumption | go_keep)
                (first
                  | (go_at_call 81; refine (c_pick (w0 := w0) (hC9.out.to (show Gw w9 _ from (by (repeat (first | with_reducible exact Gw.refl _ | with_reducible assumption | ((with_reducible refine Gw.set ?_ ?_ _); rotate_left; (focus (first | (simp; done) | (simp; omega) | omega))) | with_reducible refine Gw.alloc ?_ _ | with_reducible refine Gw.drew ?_ | with_reducible refine Gw.drewN ?_ _ | (refine Gw.trans ?_ (by with_reducible assumption))))))) (by omega) (by omega)).mono ?_; rintro e w10 ⟨u, rfl, ⟨hu1, hu2, hu3⟩, hC10, hr10⟩; have hu4 := hu3 (by omega); have w7 : IntKind.i64.wrap (a + 1 + v + 1 + u) = a + 1 + v + 1 + u := (IntWalk.i64_in _ (by omega)); have hx10 := ((bx9.out.gw (show Gw w9 _ from (by (repeat (first | with_reducible exact Gw.refl _ | with_reducible assumption | ((with_reducible refine Gw.set ?_ ?_ _); rotate_left; (focus (first | (simp; done) | (simp; omega) | omega))) | with_reducible refine Gw.alloc ?_ _ | with_reducible refine Gw.drew ?_ | with_reducible refine Gw.drewN ?_ _ | (refine Gw.trans ?_ (by with_reducible assumption))))))).grown hr10 (by simp; omega)).cell 2 rfl; have hgg10 : w.grownBy w10 (some g) := grownBy_trans hgg9.out (grownBy_trans (gw_grow (show Gw w9 _ from (by (repeat (first | with_reducible exact Gw.refl _ | with_reducible assumption | ((with_reducible refine Gw.set ?_ ?_ _); rotate_left; (focus (first | (simp; done) | (simp; omega) | omega))) | with_reducible refine Gw.alloc ?_ _ | with_reducible refine Gw.drew ?_ | with_reducible refine Gw.drewN ?_ _ | (refine Gw.trans ?_ (by with_reducible assumption)))))) g) hr10); have hown10 := own_grow (own_gw Hown9.out (show Gw w9 _ from (by (repeat (first | with_reducible exact Gw.refl _ | with_reducible assumption | ((with_reducible refine Gw.set ?_ ?_ _); rotate_left; (focus (first | (simp; done) | (simp; omega) | omega))) | with_reducible refine Gw.alloc ?_ _ | with_reducible refine Gw.drew ?_ | with_reducible refine Gw.drewN ?_ _ | (refine Gw.trans ?_ (by with_reducible assumption))))))) hr10 hlt)
                  | fail)
              all_goals
                go_wp2_with fail
                go_roundw
                case rel => exact ⟨k - 1, a + 1 + v + 1 + u, acc', A', c'', by go_num, by go_num, by omega, by omega, rfl, by omega, by unfold Hid; rw [hacc'.out]; exact hB2.out, hown10, ⟨hC10.mono (by omega), hgg10⟩⟩
                case measure => simp [intOf] <;> omega
      · obtain rfl : p = 10 := by omega
        obtain ⟨n, hn⟩ : ∃ n, Hid (l.length = n) := ⟨_, rfl⟩
        rw [hn.out] at hl hown
        rw [hn.out]
        have hcap := own_cap2 hown
        by_cases h20 : n ≤ 20
        · have h20z : ¬(20 : Int) < (n : Int) := by omega
          go_wp2_with fail
          go_ret
          exact ⟨l, D, d, by rw [hn.out]; rfl, hB.out, by rw [hn.out]; exact h20, by rw [hn.out]; exact hown, hcur.out.1.mono (by omega), hcur.out.2⟩
        · have h20z : (20 : Int) < (n : Int) := by omega
          have hdz : (20 : Int) ≤ (d : Int) := by omega
          obtain ⟨gg, hD, hg1, hg2⟩ := own_addr hown (by omega)
          subst hD
          have hown2 := own_prefixW hn.out hown (k := 20) (by omega)
          have hl20 : Hid ((l.take 20).length = 20) := by unfold Hid; rw [List.length_take, hn.out]; omega
          go_wp2_with fail
          go_ret
          exact ⟨l.take 20, some ⟨gg, 0, none⟩, d, by rw [hl20.out]; rfl, hB.out.take 20, by rw [hl20.out]; exact Nat.le_refl _, by rw [hl20.out]; exact hown2, hcur.out.1.mono (by omega), hcur.out.2⟩
end Go.Proofs.Ytipndibiioajmaa
