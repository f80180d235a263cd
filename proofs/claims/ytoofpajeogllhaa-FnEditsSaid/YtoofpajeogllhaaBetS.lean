/-
  Edits between two charts: the reference's way.
-/
import Derived.Test.YtoofpajeogllhaaBetP
import Derived.Deep.LoopGhost
import Derived.Test.YtoofpajeogllhaaSqS
import Derived.Test.YtoofpajeogllhaaTyInt
namespace Go.Proofs.Ytoofpajeogllhaa
open Go.RowKit

/-- Rows of different elements lie in different blocks. -/
theorem own_apart {w : World} {base base' s s' : Nat} {e e' : TypeId} {n n' : Nat} {v v' : Value} {xs xs' : List Value} (he : e ≠ e') (h : w.ownsRow base e s v n xs) (h' : w.ownsRow base' e' s' v' n' xs') {g : Nat} (hg : v.ownBlock = some g) : v'.ownBlock ≠ some g := by
  intro hg'
  rcases h.2 with ⟨rfl, _⟩ | ⟨g1, cap, cur, rfl, hb, hc, hc1, hm, hh⟩
  · simp [Value.ownBlock] at hg
  · rcases h'.2 with ⟨rfl, _⟩ | ⟨g2, cap', cur', rfl, hb', hc', hc1', hm', hh'⟩
    · simp [Value.ownBlock] at hg'
    · simp [Value.ownBlock] at hg hg'
      subst hg
      subst hg'
      simp_all
theorem own_beside {w w' : World} {base base' s s' : Nat} {e e' : TypeId} {n n' : Nat} {v v' : Value} {xs xs' : List Value} (he : e ≠ e') (h : w.ownsRow base e s v n xs) (h' : w.ownsRow base' e' s' v' n' xs') (hg : w.grownBy w' v'.ownBlock) : w'.ownsRow base e s v n xs := by
  refine h.kept hg ?_
  cases hv : v.ownBlock with
  | none => exact .inl rfl
  | some g => exact .inr fun heq => own_apart he h h' hv heq.symm

theorem own_cells2 {w : World} {base : Nat} {e : TypeId} {n c g k : Nat} {l : List Sp} {x : Sp} (h : w.ownsRow base e 2 (.slice (some ⟨g, 0, none⟩) n c) n (flat l)) (hn : l.length = n) (hx : l[k]? = some x) :
    w.cell? ⟨g, k * 2, none⟩ = some (.int .i64 x.1) ∧ w.cell? ⟨g, k * 2 + 1, none⟩ = some (.int .i64 x.2) := by
  subst hn
  have hr : Rd w (some ⟨g, 0, none⟩) l := own_rd (α := Sp) h
  obtain ⟨b, off, hae, _, c0, c1⟩ := hr.get2 hx
  simp only [Option.some.injEq, Addr.mk.injEq, and_true] at hae
  obtain ⟨rfl, rfl⟩ := hae
  exact ⟨by simpa using c0, by simpa using c1⟩

set_option maxHeartbeats 1000000 in
theorem s_chPair (A B : Option Addr) (c d : Nat) (a b : List Sp) (w : World) (hla : a.length ≤ 1048576) (hA : Rd w A a) (hca : a.length ≤ c) (hlb : b.length ≤ 1048576) (hB : Rd w B b) (hcb : b.length ≤ d) :
    Calls Try.prog 46 #[.slice A a.length c, .slice B b.length d] w (Tells (PairP a b) w) := by
  go_enter Try.func46, Try.ntmps46
  go_wp2_with fail
  refine (s_chGood _ _ _ _ hla hA hca).mono ?_
  rintro _ w1 (⟨hp, rfl, hb1⟩ | ⟨hp, rfl, hb1⟩)
  case inr =>
    have HN := Lib.hid hp
    clear hp
    go_wp2_with fail
    go_ret
    exact .inr ⟨fun h => HN.out h.1.1, rfl, hb1⟩
  have H1 := Lib.hid hp
  clear hp
  go_wp2_with fail
  refine (s_chGood _ _ _ _ hlb (hB.gw hb1) hcb).mono ?_
  rintro _ w2 (⟨hp, rfl, hb2⟩ | ⟨hp, rfl, hb2⟩)
  case inr =>
    have HN := Lib.hid hp
    clear hp
    go_wp2_with fail
    go_ret
    exact .inr ⟨fun h => HN.out h.1.2, rfl, Gw.trans hb1 hb2⟩
  have H2 := Lib.hid hp
  clear hp
  go_wp2_with fail
  all_goals
    go_ret
    exact tells_of (by first | (simp only [decide_eq_true_eq]; exact ⟨fun h => ⟨⟨H1.out, H2.out⟩, by omega⟩, fun h => by have := h.2; omega⟩) | (simp; exact ⟨fun h => ⟨⟨H1.out, H2.out⟩, by omega⟩, fun h => by have := h.2; omega⟩)) (Gw.trans hb1 hb2)

set_option maxHeartbeats 4000000 in
set_option maxRecDepth 100000 in
theorem s_EditsBetween (A : Option Addr) (cA : Nat) (a : List Sp) (B : Option Addr) (cB : Nat) (b : List Sp) (ed : Int) (w : World) (hla : a.length ≤ 1048576) (hA : Rd w A a) (hca : a.length ≤ cA) (hlb : b.length ≤ 1048576) (hB : Rd w B b) (hcb : b.length ≤ cB) :
    Calls Try.prog 17 #[.slice A a.length cA, .slice B b.length cB, .int .i64 ed] w fun e w' => ∃ A c, e = .returned (.tuple #[.slice A (betF a b ed).1.length c, .bool (betF a b ed).2]) ∧
      w'.ownsRow w.heap.size 28 6 (.slice A (betF a b ed).1.length c) (betF a b ed).1.length (flat (betF a b ed).1) ∧ Gw w w' := by
  obtain ⟨i0, hi, hz0, hz1, hz2⟩ := info_parts infoEdit
  have HB := Lib.hid hB
  go_enter Try.func17, Try.ntmps17
  go_wp2_with fail
  refine (s_chPair _ _ _ _ _ _ _ hla hA hca hlb hB hcb).mono ?_
  rintro _ w1 (⟨hp, rfl, hb1⟩ | ⟨hp, rfl, hb1⟩)
  case inr =>
    have hno := Lib.hid (betF_bad (a := a) (b := b) (ed := ed) (fun h => hp h.1))
    clear hp
    go_wp2_with fail
    go_ret2
    exact ⟨none, 0, ret_lb (A := none) (c := 0) hno.out, by rw [hno.out]; exact World.ownsRow_nil _ _ _ _, by (repeat (first | with_reducible exact Gw.refl _ | with_reducible assumption | ((with_reducible refine Gw.set ?_ ?_ _); rotate_left; (focus (first | (simp; done) | (simp; omega) | omega))) | with_reducible refine Gw.alloc ?_ _ | with_reducible refine Gw.drew ?_ | with_reducible refine Gw.drewN ?_ _ | (refine Gw.trans ?_ (by with_reducible assumption))))⟩
  have HP := Lib.hid hp
  clear hp
  go_wp2_with (first | (go_at_call 47; refine (s_edEditor _ _).mono ?_; rintro e w' (⟨hp, rfl, rfl⟩ | ⟨hp, rfl, rfl⟩)))
  case' _ => skip
  rotate_left
  · have hno := Lib.hid (betF_bad (a := a) (b := b) (ed := ed) (fun h => hp h.2))
    clear hp
    go_ret2
    exact ⟨none, 0, ret_lb (A := none) (c := 0) hno.out, by rw [hno.out]; exact World.ownsRow_nil _ _ _ _, by (repeat (first | with_reducible exact Gw.refl _ | with_reducible assumption | ((with_reducible refine Gw.set ?_ ?_ _); rotate_left; (focus (first | (simp; done) | (simp; omega) | omega))) | with_reducible refine Gw.alloc ?_ _ | with_reducible refine Gw.drew ?_ | with_reducible refine Gw.drewN ?_ _ | (refine Gw.trans ?_ (by with_reducible assumption))))⟩
  have HE := Lib.hid hp
  clear hp
  have hab := Lib.hid HP.out.2
  have h12 := HP.out.1.1.2.2
  have h1 := HP.out.1.1.2.1
  have hsome : Hid (∀ r, btGo ed b (diffs a b).length a [] = some r → betF a b ed = (r, true)) := fun r hr => betF_some ⟨HP.out, HE.out⟩ hr
  have hnone : Hid (btGo ed b (diffs a b).length a [] = none → betF a b ed = ([], false)) := fun hr => betF_none ⟨HP.out, HE.out⟩ hr
  refine (s_chOwn _ _ _ a _ rfl hla (hA.gw hb1) (by intro h; rw [h] at h1; simp at h1)).mono ?_
  rintro _ w2 ⟨N, cN, rfl, hnow, hb2⟩
  have hG2 : Gw w w2 := Gw.trans hb1 hb2
  have hnow := own_lower hnow hb1.size
  go_wp2_with fail
  obtain ⟨L, hL⟩ : ∃ L, Hid (a.length = L) := ⟨_, rfl⟩
  obtain ⟨R, hR⟩ : ∃ R, Hid (btGo ed b (diffs a b).length a [] = R) := ⟨_, rfl⟩
  rw [hR.out] at hsome hnone
  have hd0 : (diffs a b).length ≤ 12 := Nat.le_trans (diffTo_len a b a.length) h12
  obtain ⟨g, rfl, hg1, hg2⟩ := own_addr hnow (by omega)
  have hbl : Hid (b.length = L) := by unfold Hid; rw [← hab.out]; exact hL.out
  have hL12 : L ≤ 12 := by rw [← hL.out]; exact h12
  rw [hL.out] at hnow ⊢
  rw [hbl.out]
  clear hab h12 hA hB hca
  rw [hL.out] at h1 hla
  rw [hbl.out] at hlb hcb
  go_loopg [8] (diffs a b).length (fun gg o wr => ∃ (now : List Sp) (acc : List Ed) (D : Option Addr) (d m : Nat), o = .slice D acc.length d ∧ Hid (now.length = L) ∧ Hid ((diffs now b).length = m) ∧ m ≤ gg ∧ acc.length + m ≤ 12 ∧ wr.ownsRow w.heap.size 28 6 (.slice D acc.length d) acc.length (flat acc) ∧ wr.ownsRow w.heap.size 26 2 (.slice (some ⟨g, 0, none⟩) L cN) L (flat now) ∧ Hid (btGo ed b m now acc = R) ∧ Gw w wr)
  case atStart => exact ⟨a, [], none, 0, (diffs a b).length, rfl, hL, rfl, Nat.le_refl _, by simp; omega, World.ownsRow_nil _ _ _ _, hnow, hR, hG2⟩
  case round =>
    obtain ⟨wo, rfl⟩ : ∃ wo : World, wo = wr := ⟨_, rfl⟩
    obtain ⟨now, acc, D, d, m, rfl, hnl, hm, hmg, h12, hacc, hnow, hbt, hgw⟩ := hrel
    have HG := Lib.hid hgw
    have hgz := hgw.size
    clear hgw
    have hrd : Rd wo (some ⟨g, 0, none⟩) now := own_rd (by rw [hnl.out]; exact hnow)
    have hrb := HB.out.gw HG.out
    have Hrd := Lib.hid hrd
    have Hrb := Lib.hid hrb
    clear hrd hrb
    go_wp2_with fail
    go_loopw [10, 11, 27] (fun p q i wr => ∃ (k : Nat) (f : Int), i = .int .i64 k ∧ k ≤ L ∧ p = .int .i64 ((diffTo now b k).length : Int) ∧ q = .int .i64 f ∧ Hid (f = fcTo now b k) ∧ -1 ≤ f ∧ Gw wo wr) (fun _ _ i _ => L - (intOf i).toNat)
    case atStart => exact ⟨0, -1, by go_num, Nat.zero_le _, by simp [diffTo], rfl, by simp [Hid, fcTo, diffTo], by omega, Gw.refl _⟩
    case round =>
      obtain ⟨k, f, rfl, hk, rfl, rfl, hfc, hf1, hgi⟩ := hrel
      have hdl := diffTo_len now b k
      by_cases hkl : k < L
      · obtain ⟨x, hx⟩ := get_of_lt (l := now) (k := k) (by rw [hnl.out]; exact hkl)
        obtain ⟨y, hy⟩ := get_of_lt (l := b) (k := k) (by rw [hbl.out]; exact hkl)
        obtain ⟨b1, off1, hAe, hbb1, c0, c1⟩ := (Hrd.out.gw hgi).get2 hx
        simp only [Option.some.injEq, Addr.mk.injEq, and_true] at hAe
        obtain ⟨rfl, rfl⟩ := hAe
        obtain ⟨b2, off2, rfl, hbb2, d0, d1⟩ := (Hrb.out.gw hgi).get2 hy
        obtain ⟨x1, x2⟩ := x
        obtain ⟨y1, y2⟩ := y
        dsimp only at c0 c1 d0 d1
        rw [Nat.zero_add] at c0 c1
        have hbw1 : g < wr.heap.size + 1 := by omega
        have hbw2 : b2 < wr.heap.size + 1 := by omega
        by_cases hxy : (x1, x2) = (y1, y2)
        · have hs : now[k]? = b[k]? := by rw [hx, hy, hxy]
          have hdn : Hid ((diffTo now b (k + 1)).length = (diffTo now b k).length) := by unfold Hid; rw [diffTo_succ_no hs]
          have hfn := Lib.hid (fcTo_same hs)
          have e1 : (x1 == y1) = true := by simp at hxy; simp [hxy.1]
          have e2 : (x2 == y2) = true := by simp at hxy; simp [hxy.2]
          clear hs hx hy hxy
          go_wp2_with ((with_reducible refine wp_region_gw (by kernel_rfl) (by kernel_rfl) ?_); have hcq := @GwOf.cell; (repeat (go_big_quiet_step (fail))); refine wpQuiet_nil ?_; clear hcq; rintro w' ⟨⟨w', hb⟩, rfl⟩; (try dsimp only); have hc := hb.cells; have hf := hb.frozens; have hz := hb.size; (try simp at hz); (try have hz0 : w.heap.size < w'.heap.size := (by omega)); (try have hz1 : w.heap.size + 1 < w'.heap.size := (by omega)); (try have hz2 : w.heap.size + 2 < w'.heap.size := (by omega)); (try have hz3 : w.heap.size + 3 < w'.heap.size := (by omega)); (try have hz4 : w.heap.size + 4 < w'.heap.size := (by omega)); (try have hz5 : w.heap.size + 5 < w'.heap.size := (by omega)))
          go_roundw
          case rel => exact ⟨k + 1, f, by go_num, by omega, by rw [hdn.out], rfl, by unfold Hid; rw [hfn.out]; exact hfc.out, hf1, by (repeat (first | with_reducible exact Gw.refl _ | with_reducible assumption | ((with_reducible refine Gw.set ?_ ?_ _); rotate_left; (focus (first | (simp; done) | (simp; omega) | omega))) | with_reducible refine Gw.alloc ?_ _ | with_reducible refine Gw.drew ?_ | with_reducible refine Gw.drewN ?_ _ | (refine Gw.trans ?_ (by with_reducible assumption))))⟩
          case measure => simp [intOf]; omega
        · have hs : now[k]? ≠ b[k]? := by rw [hx, hy]; simpa using hxy
          have hdn : Hid ((diffTo now b (k + 1)).length = (diffTo now b k).length + 1) := by unfold Hid; rw [diffTo_succ_yes hs]; simp
          have hfr := free_at (now := now) hy
          have Hfr := Lib.hid hfr
          have Hs := Lib.hid hs
          have Hxy := Lib.hid hxy
          clear hs hx hy hfr
          by_cases h4 : x1 = y1
          all_goals
            first
              | (have e1 : (x1 == y1) = true := by simp [h4]
                 have h5 : ¬(x2 = y2) := fun h => hxy (by rw [h4, h])
                 have e2 : (x2 == y2) = false := by simp [h5]
                 clear h5)
              | (have e1 : (x1 == y1) = false := by simp [h4])
            clear hxy h4
            by_cases hf0 : f < 0
            · go_wp2_with ((with_reducible refine wp_region_gw (by kernel_rfl) (by kernel_rfl) ?_); have hcq := @GwOf.cell; (repeat (go_big_quiet_step (fail))); refine wpQuiet_nil ?_; clear hcq; rintro w' ⟨⟨w', hb⟩, rfl⟩; (try dsimp only); have hc := hb.cells; have hf := hb.frozens; have hz := hb.size; (try simp at hz); (try have hz0 : w.heap.size < w'.heap.size := (by omega)); (try have hz1 : w.heap.size + 1 < w'.heap.size := (by omega)); (try have hz2 : w.heap.size + 2 < w'.heap.size := (by omega)); (try have hz3 : w.heap.size + 3 < w'.heap.size := (by omega)); (try have hz4 : w.heap.size + 4 < w'.heap.size := (by omega)); (try have hz5 : w.heap.size + 5 < w'.heap.size := (by omega)))
              have hbb3 : b2 < w'.heap.size := by omega
              have hbw3 : wr.heap.size < w'.heap.size := by omega
              go_wp2_with fail
              have hff := findF_iff now (y1, y2) 0
              obtain ⟨q, hq⟩ : ∃ q, findF now (y1, y2) 0 = q := ⟨_, rfl⟩
              rw [hq] at hff
              have Hff := Lib.hid hff
              have Hq := Lib.hid hq
              clear hff hq
              have hgw3 : Gw wo w' := by (repeat (first | with_reducible exact Gw.refl _ | with_reducible assumption | ((with_reducible refine Gw.set ?_ ?_ _); rotate_left; (focus (first | (simp; done) | (simp; omega) | omega))) | with_reducible refine Gw.alloc ?_ _ | with_reducible refine Gw.drew ?_ | with_reducible refine Gw.drewN ?_ _ | (refine Gw.trans ?_ (by with_reducible assumption))))
              refine (s_chFind _ _ _ now _ _ _ hnl.out (by omega) (Hrd.out.gw hgw3)).mono ?_
              rintro _ w3 ⟨rfl, hb3⟩
              rw [Hq.out]
              by_cases hq0 : q < 0
              · have hfn : Hid ((k : Int) = fcTo now b (k + 1)) := (fcTo_new Hs.out (by rw [← hfc.out]; omega) (by rw [Hfr.out]; simp only [decide_eq_true_eq]; intro h; have := Hff.out.2 h; omega)).symm
                go_wp2_with fail
                go_roundw
                case rel => exact ⟨k + 1, k, by go_num, by omega, by rw [hdn.out]; go_num, rfl, hfn, by omega, Gw.trans hgw3 hb3⟩
                case measure => simp [intOf]; omega
              · have hfn : Hid (f = fcTo now b (k + 1)) := by
                  unfold Hid
                  rw [fcTo_not Hs.out (by rw [← hfc.out]; omega) (by rw [Hfr.out]; simp only [decide_eq_false_iff_not, Classical.not_not]; exact Hff.out.1 (by omega))]
                  exact hfc.out
                go_wp2_with fail
                go_roundw
                case rel => exact ⟨k + 1, f, by go_num, by omega, by rw [hdn.out]; go_num, rfl, hfn, hf1, Gw.trans hgw3 hb3⟩
                case measure => simp [intOf]; omega
            · have hfn : Hid (f = fcTo now b (k + 1)) := by unfold Hid; rw [fcTo_had (by rw [← hfc.out]; omega)]; exact hfc.out
              go_wp2_with ((with_reducible refine wp_region_gw (by kernel_rfl) (by kernel_rfl) ?_); have hcq := @GwOf.cell; (repeat (go_big_quiet_step (fail))); refine wpQuiet_nil ?_; clear hcq; rintro w' ⟨⟨w', hb⟩, rfl⟩; (try dsimp only); have hc := hb.cells; have hf := hb.frozens; have hz := hb.size; (try simp at hz); (try have hz0 : w.heap.size < w'.heap.size := (by omega)); (try have hz1 : w.heap.size + 1 < w'.heap.size := (by omega)); (try have hz2 : w.heap.size + 2 < w'.heap.size := (by omega)); (try have hz3 : w.heap.size + 3 < w'.heap.size := (by omega)); (try have hz4 : w.heap.size + 4 < w'.heap.size := (by omega)); (try have hz5 : w.heap.size + 5 < w'.heap.size := (by omega)))
              go_wp2_with fail
              go_roundw
              case rel => exact ⟨k + 1, f, by go_num, by omega, by rw [hdn.out]; go_num, rfl, hfn, hf1, by (repeat (first | with_reducible exact Gw.refl _ | with_reducible assumption | ((with_reducible refine Gw.set ?_ ?_ _); rotate_left; (focus (first | (simp; done) | (simp; omega) | omega))) | with_reducible refine Gw.alloc ?_ _ | with_reducible refine Gw.drew ?_ | with_reducible refine Gw.drewN ?_ _ | (refine Gw.trans ?_ (by with_reducible assumption))))⟩
              case measure => simp [intOf]; omega
      · have hkL : Hid (k = L) := by unfold Hid; omega
        have hdk : Hid (diffTo now b k = diffs now b) := by unfold Hid; show _ = diffTo now b now.length; rw [hnl.out, ← hkL.out]
        rw [hdk.out, hm.out]
        have hgw2 : Gw w wr := Gw.trans HG.out hgi
        have hacc2 := own_gw hacc hgi
        have hnow2 := own_gw hnow hgi
        have hgz2 := hgw2.size
        have hlt2 : ¬(k < L) := hkl
        by_cases hm0 : m = 0
        · subst hm0
          have hfin : Hid (betF a b ed = (acc, true)) := hsome.out acc (by rw [← hbt.out]; exact btGo_end 0 (List.eq_nil_of_length_eq_zero hm.out))
          clear hdl
          go_wp2_with fail
          go_ret2
          exact ⟨D, d, ret_lb hfin.out, by rw [hfin.out]; exact hacc2, hgw2⟩
        · have hne : Hid (diffs now b ≠ []) := fun h => hm0 (by rw [← hm.out, h]; rfl)
          have g0 : ((m : Int) == 0) = false := by simp; omega
          by_cases hf0 : f < 0
          · have hfin : Hid (betF a b ed = ([], false)) := hnone.out (by rw [← hbt.out]; exact btGo_no m hne.out (by rw [← hdk.out]; exact fcTo_none (by rw [← hfc.out]; omega)))
            clear hdl
            go_wp2_with fail
            go_ret2
            exact ⟨none, 0, ret_lb (A := none) (c := 0) hfin.out, by rw [hfin.out]; exact World.ownsRow_nil _ _ _ _, hgw2⟩
          · obtain ⟨i, rfl⟩ : ∃ i : Nat, f = i := ⟨f.toNat, by omega⟩
            have hfs := fcTo_some hfc.out.symm
            rw [hdk.out] at hfs
            obtain ⟨k', hk'⟩ := List.mem_iff_getElem?.1 (List.mem_of_find?_eq_some hfs)
            have hil := (mem_diffTo.1 (mem_of_get hk')).1
            rw [hnl.out] at hil
            obtain ⟨x, hx⟩ := get_of_lt (l := now) (k := i) (by rw [hnl.out]; exact hil)
            obtain ⟨y, hy⟩ := get_of_lt (l := b) (k := i) (by rw [hbl.out]; exact hil)
            have hst := btGo_step (ed := ed) (acc := acc) hk' hfs hx hy
            have hdl2 : Hid ((diffs (now.set i y) b).length = m - 1) := by
              unfold Hid
              have := (List.getElem?_eq_some_iff.1 hk').1
              rw [diffs_step hk' hy, List.length_append, List.length_take, List.length_drop, hm.out]
              rw [hm.out] at this
              omega
            rw [hm.out, hdl2.out, hbt.out] at hst
            have Hst := Lib.hid hst
            obtain ⟨b1, off1, hAe, hbb1, c0, c1⟩ := (Hrd.out.gw hgi).get2 hx
            simp only [Option.some.injEq, Addr.mk.injEq, and_true] at hAe
            obtain ⟨rfl, rfl⟩ := hAe
            obtain ⟨b2, off2, rfl, hbb2, d0, d1⟩ := HB.out.get2 hy
            obtain ⟨x1, x2⟩ := x
            obtain ⟨y1, y2⟩ := y
            dsimp only at c0 c1 d0 d1
            rw [Nat.zero_add] at c0 c1
            have hks : ∀ u, Gw wr u → (u.cell? ⟨g, i * 2, none⟩ = some (.int .i64 x1) ∧ u.cell? ⟨g, i * 2 + 1, none⟩ = some (.int .i64 x2) ∧ u.cell? ⟨b2, off2 + i * 2, none⟩ = some (.int .i64 y1) ∧ u.cell? ⟨b2, off2 + i * 2 + 1, none⟩ = some (.int .i64 y2)) := fun u hu =>
              ⟨by rw [hu.cells _ _ hbb1]; exact c0, by rw [hu.cells _ _ hbb1]; exact c1, by rw [(Gw.trans hgw2 hu).cells _ _ hbb2]; exact d0, by rw [(Gw.trans hgw2 hu).cells _ _ hbb2]; exact d1⟩
            have Hks := Lib.hid hks
            have Hx := Lib.hid hx
            clear hks c0 c1 hst hdl hfs hk' hx hy
            have bi0 : (0 : Int) ≤ (i : Int) := by omega
            have bi1 : (i : Int) < (L : Int) := by omega
            have bi2 : ¬((i : Int) < 0) := by omega
            go_wp2_with fail
            go_region_held3 (fun u => u.cell? ⟨g, i * 2, none⟩ = some (.int .i64 x1) ∧ u.cell? ⟨g, i * 2 + 1, none⟩ = some (.int .i64 x2) ∧ u.cell? ⟨b2, off2 + i * 2, none⟩ = some (.int .i64 y1) ∧ u.cell? ⟨b2, off2 + i * 2 + 1, none⟩ = some (.int .i64 y2)) (first | assumption | exact Hks.out _ (by (repeat (first | with_reducible exact Gw.refl _ | with_reducible assumption | ((with_reducible refine Gw.set ?_ ?_ _); rotate_left; (focus (first | (simp; done) | (simp; omega) | omega))) | with_reducible refine Gw.alloc ?_ _ | with_reducible refine Gw.drew ?_ | with_reducible refine Gw.drewN ?_ _ | (refine Gw.trans ?_ (by with_reducible assumption))))) | go_keep)
              (first
                | (refine step_cat (α := Ed) rfl (.tmp 58) (.tmp 70) 36 (by rfl) w.heap.size 28 i0 _ 48 Try.underlying36 hi hz0 hz1 hz2 rfl (by omega) acc acc.length rfl D d (by rfl) [(ed, (i : Int), x1, x2, y1, y2)] 1 rfl _ 1 (by rfl) ((rdBox wr _ (ed, (i : Int), x1, x2, y1, y2)).gw (Gw.refl _).drew) (hacc2.alloc _).drew (by omega) (by omega) (Gw.size (by (repeat (first | with_reducible exact Gw.refl _ | with_reducible assumption | ((with_reducible refine Gw.set ?_ ?_ _); rotate_left; (focus (first | (simp; done) | (simp; omega) | omega))) | with_reducible refine Gw.alloc ?_ _ | with_reducible refine Gw.drew ?_ | with_reducible refine Gw.drewN ?_ _ | (refine Gw.trans ?_ (by with_reducible assumption)))))) ?_; intro A9 c9 w9 hown9 hgg9 hgr9; have hgw9 : Gw w w9 := hgg9 w (by (repeat (first | with_reducible exact Gw.refl _ | with_reducible assumption | ((with_reducible refine Gw.set ?_ ?_ _); rotate_left; (focus (first | (simp; done) | (simp; omega) | omega))) | with_reducible refine Gw.alloc ?_ _ | with_reducible refine Gw.drew ?_ | with_reducible refine Gw.drewN ?_ _ | (refine Gw.trans ?_ (by with_reducible assumption))))) (Nat.le_refl _); have hnow9 := own_beside (by decide) (hnow2.alloc (.cells #[.int .i64 ed, .int .i64 (i : Int), .int .i64 x1, .int .i64 x2, .int .i64 y1, .int .i64 y2] 28)).drew (hacc2.alloc (.cells #[.int .i64 ed, .int .i64 (i : Int), .int .i64 x1, .int .i64 x2, .int .i64 y1, .int .i64 y2] 28)).drew hgr9; have hk9 := (⟨(own_cells2 hnow9 hnl.out Hx.out).1, (own_cells2 hnow9 hnl.out Hx.out).2, (hgw9.cells _ _ hbb2).trans d0, (hgw9.cells _ _ hbb2).trans d1⟩ : w9.cell? ⟨g, i * 2, none⟩ = some (.int .i64 x1) ∧ w9.cell? ⟨g, i * 2 + 1, none⟩ = some (.int .i64 x2) ∧ w9.cell? ⟨b2, off2 + i * 2, none⟩ = some (.int .i64 y1) ∧ w9.cell? ⟨b2, off2 + i * 2 + 1, none⟩ = some (.int .i64 y2)); clear hgg9 hgr9)
                | fail)
            obtain ⟨k0, k1, k2, k3⟩ := hk9
            obtain ⟨acc9, hacc9⟩ : ∃ r, Hid (r = acc ++ [(ed, (i : Int), x1, x2, y1, y2)]) := ⟨_, rfl⟩
            have hal9 : Hid (acc9.length = acc.length + 1) := by unfold Hid; rw [hacc9.out]; simp
            rw [← hacc9.out, ← hal9.out] at hown9
            rw [← hacc9.out] at Hst
            rw [← hal9.out]
            have hgz9 := hgw9.size
            have fz0 := World.ownsRow.frozenAt hnow9 (i * 2)
            have fz1 := World.ownsRow.frozenAt hnow9 (i * 2 + 1)
            have r := own_set2 (k := i) hnow9 (y1, y2)
            have hown10 := own_beside (by decide) hown9 hnow9 r.2
            have hgw10 := hgw9.grown r.2 (fun j hj => by simp at hj; subst hj; exact hg1)
            dsimp only at r hown10 hgw10
            have Hr := Lib.hid r.1
            have Hown10 := Lib.hid hown10
            have Hgw10 := Lib.hid hgw10
            clear r hown10 hgw10 hown9 hnow9
            go_wp2_with fail
            go_roundg (m - 1)
            case measure => omega
            case rel => exact ⟨now.set i (y1, y2), acc9, A9, c9, m - 1, rfl, by unfold Hid; rw [List.length_set]; exact hnl.out, hdl2, by omega, by have := hal9.out; omega, Hown10.out, Hr.out, Hst.out.symm, Hgw10.out⟩
end Go.Proofs.Ytoofpajeogllhaa
