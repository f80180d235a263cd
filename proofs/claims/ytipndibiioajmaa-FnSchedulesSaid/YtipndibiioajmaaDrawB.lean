/-
  Draws of booked ones.
-/
import Derived.Test.YtipndibiioajmaaDrawR
import Derived.Test.YtipndibiioajmaaTail
import Derived.Deep.RegionLaw
namespace Go.Proofs.Ytipndibiioajmaa
open Go.RowKit

theorem ne_own {b g n c : Nat} (h : b ≠ g) : some b ≠ (Value.slice (some ⟨g, 0, none⟩) n c).ownBlock := by simp [Value.ownBlock, h]
abbrev TmB (x : B4) : Prop := Tm x.1 ∧ Tm x.2.1 ∧ Tm x.2.2.1 ∧ Tm x.2.2.2
abbrev Sm (v : Int) : Prop := -1000 ≤ v ∧ v ≤ 1000
abbrev SmB (x : B4) : Prop := Sm x.1 ∧ Sm x.2.1 ∧ Sm x.2.2.1 ∧ Sm x.2.2.2
theorem sm_tm {S : List B4} (h : ∀ x ∈ S, SmB x) : ∀ x ∈ S, TmB x := fun x hx => by
  have := h x hx
  omega
theorem bookP_tm {S : List B4} (h : BookP S) : ∀ x ∈ S, SmB x := fun x hx => by
  have := h.1 x hx
  omega
theorem goF_tm {W : List (Int × Int × Int)} {L : List (Int × Int)} (hW : WinsP W) (hL : RehP L) : (∀ x ∈ (goF W L).1, SmB x) ∧ (goF W L).1.length ≤ 6 := by
  cases h : schedGo W [] L with
  | none => rw [goF_none h]; exact ⟨all_nil, by simp⟩
  | some S =>
    rw [goF_some h]
    have := schedGo_book hW L [] S hL.1 bookP_nil (by simpa using hL.2) h
    exact ⟨bookP_tm this.1, this.1.2.2⟩
set_option maxHeartbeats 8000000 in
set_option maxRecDepth 100000 in
theorem booked_tail {w0 w w1 : World} {g m d : Nat} {D : Option Addr} {S : List B4} {s1 s2 s3 s4 s5 s6 s8 s9 s10 s11 s12 s13 s14 s15 s16 s17 s18 s19 s20 s21 s22 s23 s24 s25 s26 s27 s28 s29 s30 s31 s32 s33 s34 s35 s36 s37 s38 s39 s40 s41 s42 s43 s44 s45 s46 s47 s48 s49 s50 s51 s52 s53 s54 s55 s56 s57 s58 s59 s60 s61 s62 s63 s64 s65 s66 s67 s68 s69 s70 s71 s72 s73 s74 s75 s76 s77 s78 s79 s80 s81 s82 s83 s84 s85 s86 s87 s88 s89 s90 s91 s92 s93 s94 s95 s96 s97 s98 s99 s100 s101 s102 s103 s104 s105 s106 s107 s108 s109 s110 s111 s112 s113 s114 s115 s116 s117 s118 s119 s120 s121 s122 s123 s124 s125 s126 s127 s128 s129 s130 s131 s132 s133 s134 s135 s136 : Value} (hlt : g < w.heap.size) (hw0 : w0.heap.size ≤ w.heap.size) (hm : m ≤ 100000000) (hS : S.length ≤ 6) (hB : ∀ x ∈ S, SmB x) (hown : w1.ownsRow w.heap.size 88 4 (.slice D S.length d) S.length (flat S)) (hC : CurP w0 w1 g m) (hgr : w.grownBy w1 (some g)) :
    Code.wp Try.prog (Code.tailOf 3 (Try.f75.body.getD .skip)) (bodyPost Try.prog Try.f75 (fun e w' => ∃ (l : List B4) (A : Option Addr) (c : Nat), e = .returned (.slice A l.length c) ∧ (∀ x ∈ l, TmB x) ∧ l.length ≤ 7 ∧ w'.ownsRow w.heap.size 88 4 (.slice A l.length c) l.length (flat l) ∧ CurP w0 w' g (m + 200) ∧ w.grownBy w' (some g))) ⟨#[.pointer (some ⟨g, 0, none⟩), s1, s2, s3, s4, s5, s6, .slice D S.length d, s8, s9, s10, s11, s12, s13, s14, s15, s16, s17, s18, s19, s20, s21, s22, s23, s24, s25, s26, s27, s28, s29, s30, s31, s32, s33, s34, s35, s36, s37, s38, s39, s40, s41, s42, s43, s44, s45, s46, s47, s48, s49, s50, s51, s52, s53, s54, s55, s56, s57, s58, s59, s60, s61, s62, s63, s64, s65, s66, s67, s68, s69, s70, s71, s72, s73, s74, s75, s76, s77, s78, s79, s80, s81, s82, s83, s84, s85, s86, s87, s88, s89, s90, s91, s92, s93, s94, s95, s96, s97, s98, s99, s100, s101, s102, s103, s104, s105, s106, s107, s108, s109, s110, s111, s112, s113, s114, s115, s116, s117, s118, s119, s120, s121, s122, s123, s124, s125, s126, s127, s128, s129, s130, s131, s132, s133, s134, s135, s136], []⟩ w1 := by
  obtain ⟨i0, hi, hz0, hz1, hz2⟩ := info_parts infoBooked
  conv => arg 2; whnf
  conv => arg 4; zeta
  have HB := Lib.hid hB
  have Hcur := Lib.hid (And.intro hC hgr)
  clear hB hC hgr
  go_upto_if 30 with fail

  go_cut [7] (fun u wx => ∃ (S : List B4) (D : Option Addr) (d : Nat), u = .slice D S.length d ∧ S.length ≤ 6 ∧ Hid (∀ x ∈ S, SmB x) ∧ wx.ownsRow w.heap.size 88 4 (.slice D S.length d) S.length (flat S) ∧ Hid (CurP w0 wx g (m + 60) ∧ w.grownBy wx (some g)))
  case first =>
    obtain ⟨n, hn⟩ : ∃ n, Hid (S.length = n) := ⟨_, rfl⟩
    rw [hn.out] at hS hown ⊢
    by_cases h0 : n = 0
    · subst h0
      go_wp2_with fail
      refine (c_pick (w0 := w0) Hcur.out.1 (by omega) (by omega)).mono ?_
      rintro _ w2 ⟨v, rfl, ⟨hv1, hv2, hv3⟩, hC2, hr2⟩
      have hv4 := hv3 (by omega)
      obtain ⟨kk, rfl⟩ : ∃ kk : Nat, v = kk := ⟨v.toNat, by omega⟩
      have hown2 := own_grow hown hr2 hlt
      have hcur2 := Lib.hid (And.intro hC2 (grownBy_trans Hcur.out.2 hr2))
      clear hv3 hown hC2 hr2
      go_wp2_with fail
      go_loopw [7, 8, 9, 10, 11] (fun o q _ _ _ wr => ∃ (k : Nat) (S : List B4) (D : Option Addr) (d : Nat), q = .int .i64 k ∧ k ≤ kk ∧ o = .slice D S.length d ∧ S.length ≤ 6 ∧ Hid (∀ x ∈ S, SmB x) ∧ wr.ownsRow w.heap.size 88 4 (.slice D S.length d) S.length (flat S) ∧ Hid (CurP w0 wr g (m + 2 + 10 * (kk - k)) ∧ w.grownBy wr (some g))) (fun _ q _ _ _ _ => (intOf q).toNat)
      case atStart => exact ⟨kk, S, D, d, by go_num, Nat.le_refl _, by rw [hn.out], by rw [hn.out]; omega, HB, by rw [hn.out]; exact hown2, ⟨hcur2.out.1.mono (by omega), hcur2.out.2⟩⟩
      case round =>
        clear HB hown2 hcur2 hn hS Hcur
        obtain ⟨k, S, D, d, rfl, hk, rfl, hS, HB, hown, hcur⟩ := hrel
        obtain ⟨wo, rfl⟩ : ∃ wo : World, wo = wr := ⟨_, rfl⟩
        by_cases hk0 : k = 0
        · subst hk0
          go_wp2_with fail
          go_meet
          exact ⟨S, D, d, rfl, hS, HB, hown, ⟨hcur.out.1.mono (by omega), hcur.out.2⟩⟩
        · have hkz : (0 : Int) < (k : Int) := by omega
          have wk : IntKind.i64.wrap ((k : Int) - 1) = ((k - 1 : Nat) : Int) := by rw [IntWalk.i64_in _ (by omega)]; omega
          go_wp2_with fail
          refine (c_pick (w0 := w0) hcur.out.1 (by omega) (by omega)).mono ?_
          rintro _ w2 ⟨a, rfl, ⟨ha1, ha2, ha3⟩, hC2, hr2⟩
          have ha4 := ha3 (by omega)
          go_wp2_with fail
          refine (c_pick (w0 := w0) hC2 (by omega) (by omega)).mono ?_
          rintro _ w3 ⟨p, rfl, ⟨hp1, hp2, hp3⟩, hC3, hr3⟩
          have hp4 := hp3 (by omega)
          have q1 : IntKind.i64.wrap (1 + p) = 1 + p := IntWalk.i64_in _ (by omega)
          go_wp2_with fail
          refine (c_pick (w0 := w0) hC3 (by omega) (by omega)).mono ?_
          rintro _ w4 ⟨q, rfl, ⟨hq1, hq2, hq3⟩, hC4, hr4⟩
          have hq4 := hq3 (by omega)
          have q2 : IntKind.i64.wrap (1 + q) = 1 + q := IntWalk.i64_in _ (by omega)
          have q3 : IntKind.i64.wrap (a + 1) = a + 1 := IntWalk.i64_in _ (by omega)
          go_wp2_with fail
          refine (c_pick (w0 := w0) hC4 (by omega) (by omega)).mono ?_
          rintro _ w5 ⟨t, rfl, ⟨ht1, ht2, ht3⟩, hC5, hr5⟩
          have ht4 := ht3 (by omega)
          have q4 : IntKind.i64.wrap (a + 1 + t) = a + 1 + t := IntWalk.i64_in _ (by omega)
          have hgr5 := grownBy_trans hcur.out.2 (grownBy_trans hr2 (grownBy_trans hr3 (grownBy_trans hr4 hr5)))
          have hown5 := own_grow (own_grow (own_grow (own_grow hown hr2 hlt) hr3 hlt) hr4 hlt) hr5 hlt
          obtain ⟨n, hn⟩ : ∃ n, Hid (S.length = n) := ⟨_, rfl⟩
          rw [hn.out] at hS hown5 ⊢
          clear hown hr2 hr3 hr4 hr5 hC2 hC3 hC4 ha3 hp3 hq3 ht3
          go_wp2_with fail
          have hbx : ∀ j v, (#[Value.int .i64 (1 + p), .int .i64 (1 + q), .int .i64 a, .int .i64 (a + 1 + t)] : Array Value)[j]? = some v → (w5.alloc (.cells #[Value.int .i64 (1 + p), .int .i64 (1 + q), .int .i64 a, .int .i64 (a + 1 + t)] 88)).cell? ⟨w5.heap.size, j, none⟩ = some v := fun j v hj => box_cell (Gw.refl _) hj
          have x0 := hbx 0 _ rfl
          have x1 := hbx 1 _ rfl
          have x2 := hbx 2 _ rfl
          have x3 := hbx 3 _ rfl
          have hrB : Gw w5 (w5.alloc (.cells #[Value.int .i64 (1 + p), .int .i64 (1 + q), .int .i64 a, .int .i64 (a + 1 + t)] 88)) := (Gw.refl _).alloc _
          have hBz : w5.heap.size < (w5.alloc (.cells #[Value.int .i64 (1 + p), .int .i64 (1 + q), .int .i64 a, .int .i64 (a + 1 + t)] 88)).heap.size := by simp
          clear hbx
          generalize (w5.alloc (.cells #[Value.int .i64 (1 + p), .int .i64 (1 + q), .int .i64 a, .int .i64 (a + 1 + t)] 88)) = B at *
          have hks : ∀ u, Gw B u → (Gw B u ∧ u.cell? ⟨w5.heap.size, 0, none⟩ = some (.int .i64 (1 + p)) ∧ u.cell? ⟨w5.heap.size, 1, none⟩ = some (.int .i64 (1 + q)) ∧ u.cell? ⟨w5.heap.size, 2, none⟩ = some (.int .i64 a) ∧ u.cell? ⟨w5.heap.size, 3, none⟩ = some (.int .i64 (a + 1 + t))) := fun u hu =>
            ⟨hu, by rw [hu.cells _ _ hBz]; exact x0, by rw [hu.cells _ _ hBz]; exact x1, by rw [hu.cells _ _ hBz]; exact x2, by rw [hu.cells _ _ hBz]; exact x3⟩
          have Hks := Lib.hid hks
          have HownB := Lib.hid (own_gw hown5 hrB)
          have HDB : Hid (Rd B D S) := own_rd (c := d) (by rw [hn.out]; exact HownB.out)
          have HCB := Lib.hid (hC5.to hrB)
          have HgB := Lib.hid (grownBy_trans hgr5 (gw_grow hrB g))
          have hdn : n ≤ d := own_cap2 hown5
          have hsB := HgB.out.size
          clear hks x0 x1 x2 x3 hown5 hC5 hgr5
          go_region_held3 (fun u => Gw B u ∧ u.cell? ⟨w5.heap.size, 0, none⟩ = some (.int .i64 (1 + p)) ∧ u.cell? ⟨w5.heap.size, 1, none⟩ = some (.int .i64 (1 + q)) ∧ u.cell? ⟨w5.heap.size, 2, none⟩ = some (.int .i64 a) ∧ u.cell? ⟨w5.heap.size, 3, none⟩ = some (.int .i64 (a + 1 + t))) (first | exact Hks.out _ (by (repeat (first | with_reducible exact Gw.refl _ | with_reducible assumption | ((with_reducible refine Gw.set ?_ ?_ _); rotate_left; (focus (first | (simp; done) | (simp; omega) | omega))) | with_reducible refine Gw.alloc ?_ _ | with_reducible refine Gw.drew ?_ | with_reducible refine Gw.drewN ?_ _ | (refine Gw.trans ?_ (by with_reducible assumption))))) | go_keep)
            (first
              | (refine step_catG (α := B4) (by rfl) (.tmp 52) (.tmp 53) 43 (by rfl) B.heap.size 88 i0 _ 32 Try.underlying43 hi hz0 hz1 hz2 rfl (by omega) [] 0 rfl _ 0 (by rfl) S n hn.out _ _ (by rfl) (HDB.out.gw (by (repeat (first | with_reducible exact Gw.refl _ | with_reducible assumption | ((with_reducible refine Gw.set ?_ ?_ _); rotate_left; (focus (first | (simp; done) | (simp; omega) | omega))) | with_reducible refine Gw.alloc ?_ _ | with_reducible refine Gw.drew ?_ | with_reducible refine Gw.drewN ?_ _ | (refine Gw.trans ?_ (by with_reducible assumption)))))) (by first | exact World.ownsRow_made _ #[] 0 (by simp) (by simp [maxLen]) (by simp) | exact (World.ownsRow_made _ #[] 0 (by simp) (by simp [maxLen]) (by simp)).alloc _ | exact ownB2 _ _ _ 4 _ (by simp)) (by omega) (by omega) (by first | (simp; done) | (simp; omega)) ?_; intro A7 c7 w7 hown7 hgg7 hgr7; have hgB7 : Gw B w7 := hgg7 B (by (repeat (first | with_reducible exact Gw.refl _ | with_reducible assumption | ((with_reducible refine Gw.set ?_ ?_ _); rotate_left; (focus (first | (simp; done) | (simp; omega) | omega))) | with_reducible refine Gw.alloc ?_ _ | with_reducible refine Gw.drew ?_ | with_reducible refine Gw.drewN ?_ _ | (refine Gw.trans ?_ (by with_reducible assumption))))) (Nat.le_refl _); clear hgg7; simp only [List.nil_append, Nat.zero_add] at hown7; rw [show (0 + n : Nat) = n from Nat.zero_add _])
              | (refine step_catG (α := B4) (by rfl) (.tmp 54) (.tmp 56) 43 (by rfl) B.heap.size 88 i0 _ 32 Try.underlying43 hi hz0 hz1 hz2 rfl (by omega) S n hn.out _ _ (by rfl) [(1 + p, 1 + q, a, a + 1 + t)] 1 rfl _ 1 (by rfl) (by first | exact rdB w7 _ ((1 + p, 1 + q, a, a + 1 + t) : B4) | exact (rdDr (rdB2 B _ _ ((1 + p, 1 + q, a, a + 1 + t) : B4))).keep hgr7 (fun b' off' h => by simp only [Option.some.injEq, Addr.mk.injEq, and_true] at h; obtain ⟨rfl, _⟩ := h; exact ne_own (by first | (show B.heap.size + 1 ≠ B.heap.size; omega) | (show B.heap.size ≠ B.heap.size + 1; omega))) | exact (rdDr ((rdB B _ ((1 + p, 1 + q, a, a + 1 + t) : B4)).gw ((Gw.refl _).alloc _))).keep hgr7 (fun b' off' h => by simp only [Option.some.injEq, Addr.mk.injEq, and_true] at h; obtain ⟨rfl, _⟩ := h; exact ne_own (by first | (show B.heap.size + 1 ≠ B.heap.size; omega) | (show B.heap.size ≠ B.heap.size + 1; omega)))) (by first | exact hown7 | exact hown7.alloc _) (by omega) (by omega) (Gw.size (by (repeat (first | with_reducible exact Gw.refl _ | with_reducible assumption | ((with_reducible refine Gw.set ?_ ?_ _); rotate_left; (focus (first | (simp; done) | (simp; omega) | omega))) | with_reducible refine Gw.alloc ?_ _ | with_reducible refine Gw.drew ?_ | with_reducible refine Gw.drewN ?_ _ | (refine Gw.trans ?_ (by with_reducible assumption)))))) ?_; intro A8 c8 w8 hown8 hgg8 hgr8; have hgB8 : Gw B w8 := hgg8 B (by (repeat (first | with_reducible exact Gw.refl _ | with_reducible assumption | ((with_reducible refine Gw.set ?_ ?_ _); rotate_left; (focus (first | (simp; done) | (simp; omega) | omega))) | with_reducible refine Gw.alloc ?_ _ | with_reducible refine Gw.drew ?_ | with_reducible refine Gw.drewN ?_ _ | (refine Gw.trans ?_ (by with_reducible assumption))))) (Nat.le_refl _); clear hgg8 hgr8)
              | fail)
          all_goals
            have hr8 : Rd w8 A8 (S ++ [(1 + p, 1 + q, a, a + 1 + t)]) := own_rd (c := c8) (by rw [List.length_append, hn.out]; exact hown8)
            have hc8 := own_capB hown8
            go_wp2_with fail
            refine (s_reBookedN _ _ (n + 1) (S ++ [(1 + p, 1 + q, a, a + 1 + t)]) _ (by rw [List.length_append, hn.out]; rfl) (by omega) hr8 hc8).mono ?_
            rintro _ w9 (⟨hp, rfl, hb9⟩ | ⟨hp, rfl, hb9⟩)
            · have hgB9 : Gw B w9 := Gw.trans hgB8 hb9
              have hl6 : n + 1 ≤ 6 := by have := hp.2.2; simp [hn.out] at this; omega
              have hln : Hid ((S ++ [(1 + p, 1 + q, a, a + 1 + t)]).length = n + 1) := by unfold Hid; rw [List.length_append, hn.out]; rfl
              have hB9 := Lib.hid (bookP_tm hp)
              clear hp
              go_wp2_with fail
              go_roundw
              case rel => exact ⟨k - 1, S ++ [(1 + p, 1 + q, a, a + 1 + t)], A8, c8, by go_num, by omega, by rw [hln.out], by rw [hln.out]; exact hl6, hB9, by rw [hln.out]; exact own_lower (own_gw hown8 hb9) hsB, ⟨(HCB.out.to hgB9).mono (by omega), grownBy_trans HgB.out (gw_grow hgB9 g)⟩⟩
              case measure => simp [intOf] <;> omega
            · have hgB9 : Gw B w9 := Gw.trans hgB8 hb9
              clear hp
              go_wp2_with fail
              go_roundw
              case rel => exact ⟨k - 1, S, D, d, by go_num, by omega, by rw [hn.out], by rw [hn.out]; exact hS, HB, by rw [hn.out]; exact own_gw HownB.out hgB9, ⟨(HCB.out.to hgB9).mono (by omega), grownBy_trans HgB.out (gw_grow hgB9 g)⟩⟩
              case measure => simp [intOf] <;> omega
    · go_wp2_with fail
      go_meet
      exact ⟨S, D, d, by rw [hn.out], by rw [hn.out]; omega, HB, by rw [hn.out]; exact hown, ⟨Hcur.out.1.mono (by omega), Hcur.out.2⟩⟩
  case rest =>
  clear HB Hcur hown hS
  clear S D d
  obtain ⟨S, D, d, rfl, hS, HB, hown, Hcur⟩ := hcut
  go_upto_if 63 with fail
  go_cut [7] (fun u wx => ∃ (S : List B4) (D : Option Addr) (d : Nat), u = .slice D S.length d ∧ S.length ≤ 6 ∧ Hid (∀ x ∈ S, TmB x) ∧ wx.ownsRow w.heap.size 88 4 (.slice D S.length d) S.length (flat S) ∧ Hid (CurP w0 wx g (m + 80) ∧ w.grownBy wx (some g)))
  case first =>
    obtain ⟨k, hk⟩ : ∃ k, Hid (S.length = k) := ⟨_, rfl⟩
    rw [hk.out] at hS hown ⊢
    by_cases h0 : k = 0
    · subst h0
      go_wp2_with fail
      go_meet
      exact ⟨S, D, d, by rw [hk.out], by rw [hk.out]; omega, sm_tm HB.out, by rw [hk.out]; exact hown, ⟨Hcur.out.1.mono (by omega), Hcur.out.2⟩⟩
    have hkz : (0 : Int) < (k : Int) := by omega
    obtain ⟨gg, hA, hg1, hg2⟩ := own_addr hown (by omega)
    subst hA
    have hgne : ¬(gg = g) := by omega
    have hggne : ¬(g = gg) := by omega
    go_wp2_with fail
    refine (c_pick (w0 := w0) Hcur.out.1 (by omega) (by omega)).mono ?_
    rintro _ w4 ⟨i0', rfl, ⟨hi1, hi2, hi3⟩, hC4, hr4⟩
    have hi4 := hi3 (by omega)
    obtain ⟨i, rfl⟩ : ∃ i : Nat, i0' = i := ⟨i0'.toNat, by omega⟩
    have hlti : i < k := by omega
    obtain ⟨x, hx⟩ := get_of_lt (show i < S.length by rw [hk.out]; exact hlti)
    have Hx := Lib.hid hx
    have hxb := HB.out x (mem_of_get hx)
    have hgw4 : w.grownBy w4 (some g) := grownBy_trans Hcur.out.2 hr4
    have hown4 := own_grow hown hr4 hlt
    clear hx hi3 hown
    go_wp2_with fail
    refine (c_pick (w0 := w0) hC4 (by omega) (by omega)).mono ?_
    rintro _ w5 ⟨v, rfl, ⟨hv1, hv2, -⟩, hC5, hr5⟩
    have hgw5 : w.grownBy w5 (some g) := grownBy_trans hgw4 hr5
    have hown5 := own_grow hown4 hr5 hlt
    have hgs5 : gg < w5.heap.size := by have := hr4.size; have := hr5.size; omega
    obtain ⟨x1, x2, x3, x4⟩ := x
    have hxs : Sm x1 ∧ Sm x2 ∧ Sm x3 ∧ Sm x4 := hxb
    clear hxb
    have hxb : Tm x1 ∧ Tm x2 ∧ Tm x3 ∧ Tm x4 := by omega
    have hB := Lib.hid (sm_tm HB.out)
    clear hown4
    by_cases v0 : v = 0
    · subst v0
      go_wp2_with fail
      refine (c_among (w0 := w0) hC5 (by omega) (by simp [SmV]; try omega) (by first | rfl | simp) (by omega) (by omega) (by first | rfl | simp)).mono ?_
      rintro _ w6 ⟨r, rfl, ⟨hr1', hr2', hrm⟩, hC6, hr6⟩
      have hrb : Tm r := by
        simp at hrm
        omega
      clear hrm
      have hgw6 : w.grownBy w6 (some g) := grownBy_trans hgw5 (grownBy_trans (gw_grow ((Gw.refl w5).alloc _) g) hr6)
      have hown6 := own_grow (hown5.alloc _) hr6 hlt
      have hce := own_cellsG (α := B4) hk.out hown6 Hx.out
      have e0 : w6.cell? ⟨gg, i * 4, none⟩ = some (.int .i64 x1) := hce 0 _ rfl
      have fz := World.ownsRow.frozenAt hown6 (i * 4)
      clear hown5 hce
      have hs : (w6.setCell ⟨gg, i * 4, none⟩ (.int .i64 r)).ownsRow w.heap.size 88 4 (.slice (some ⟨gg, 0, none⟩) k d) k (flat (S.set i (r, x2, x3, x4))) := (own_setG (α := B4) hown6 Hx.out 0 (r, x2, x3, x4) (.int .i64 r) (by decide) rfl).1
      have Hs := Lib.hid hs
      have hl2 : Hid ((S.set i (r, x2, x3, x4)).length = k) := by unfold Hid; rw [List.length_set, hk.out]
      have hCs := Lib.hid (CurP.set hC6 (p := ⟨gg, i * 4, none⟩) (by show w0.heap.size ≤ gg; omega) (by exact hgne) (.int .i64 r))
      have hgs := Lib.hid (grow_set hgw6 (p := ⟨gg, i * 4, none⟩) (by exact hg1) (.int .i64 r))
      clear hown6 hs
      go_wp2_with fail
      go_meet
      exact ⟨S.set i (r, x2, x3, x4), some ⟨gg, 0, none⟩, d, by rw [hl2.out], by rw [hl2.out]; omega, all_set hB.out i ⟨hrb, hxb.2.1, hxb.2.2.1, hxb.2.2.2⟩, by rw [hl2.out]; exact Hs.out, ⟨hCs.out.mono (by omega), hgs.out⟩⟩
    by_cases v1 : v = 1
    · subst v1
      go_wp2_with fail
      refine (c_among (w0 := w0) hC5 (by omega) (by simp [SmV]; try omega) (by first | rfl | simp) (by omega) (by omega) (by first | rfl | simp)).mono ?_
      rintro _ w6 ⟨r, rfl, ⟨hr1', hr2', hrm⟩, hC6, hr6⟩
      have hrb : Tm r := by
        simp at hrm
        omega
      clear hrm
      have hgw6 : w.grownBy w6 (some g) := grownBy_trans hgw5 (grownBy_trans (gw_grow ((Gw.refl w5).alloc _) g) hr6)
      have hown6 := own_grow (hown5.alloc _) hr6 hlt
      have hce := own_cellsG (α := B4) hk.out hown6 Hx.out
      have e0 : w6.cell? ⟨gg, i * 4 + 1, none⟩ = some (.int .i64 x2) := hce 1 _ rfl
      have fz := World.ownsRow.frozenAt hown6 (i * 4 + 1)
      clear hown5 hce
      have hs : (w6.setCell ⟨gg, i * 4 + 1, none⟩ (.int .i64 r)).ownsRow w.heap.size 88 4 (.slice (some ⟨gg, 0, none⟩) k d) k (flat (S.set i (x1, r, x3, x4))) := (own_setG (α := B4) hown6 Hx.out 1 (x1, r, x3, x4) (.int .i64 r) (by decide) rfl).1
      have Hs := Lib.hid hs
      have hl2 : Hid ((S.set i (x1, r, x3, x4)).length = k) := by unfold Hid; rw [List.length_set, hk.out]
      have hCs := Lib.hid (CurP.set hC6 (p := ⟨gg, i * 4 + 1, none⟩) (by show w0.heap.size ≤ gg; omega) (by exact hgne) (.int .i64 r))
      have hgs := Lib.hid (grow_set hgw6 (p := ⟨gg, i * 4 + 1, none⟩) (by exact hg1) (.int .i64 r))
      clear hown6 hs
      go_wp2_with fail
      go_meet
      exact ⟨S.set i (x1, r, x3, x4), some ⟨gg, 0, none⟩, d, by rw [hl2.out], by rw [hl2.out]; omega, all_set hB.out i ⟨hxb.1, hrb, hxb.2.2.1, hxb.2.2.2⟩, by rw [hl2.out]; exact Hs.out, ⟨hCs.out.mono (by omega), hgs.out⟩⟩
    by_cases v2 : v = 2
    · subst v2
      have hce := own_cellsG (α := B4) hk.out hown5 Hx.out
      have e3 : w5.cell? ⟨gg, i * 4 + 3, none⟩ = some (.int .i64 x4) := hce 3 _ rfl
      clear hce
      go_wp2_with fail
      refine (c_among (w0 := w0) hC5 (by omega) (by simp [SmV]; try omega) (by first | rfl | simp) (by omega) (by omega) (by first | rfl | simp)).mono ?_
      rintro _ w6 ⟨r, rfl, ⟨hr1', hr2', hrm⟩, hC6, hr6⟩
      have hrb : Tm r := by
        simp at hrm
        omega
      clear hrm
      have hgw6 : w.grownBy w6 (some g) := grownBy_trans hgw5 (grownBy_trans (gw_grow ((Gw.refl w5).alloc _) g) hr6)
      have hown6 := own_grow (hown5.alloc _) hr6 hlt
      clear e3
      have hce := own_cellsG (α := B4) hk.out hown6 Hx.out
      have e0 : w6.cell? ⟨gg, i * 4 + 2, none⟩ = some (.int .i64 x3) := hce 2 _ rfl
      have fz := World.ownsRow.frozenAt hown6 (i * 4 + 2)
      clear hown5 hce
      have hs : (w6.setCell ⟨gg, i * 4 + 2, none⟩ (.int .i64 r)).ownsRow w.heap.size 88 4 (.slice (some ⟨gg, 0, none⟩) k d) k (flat (S.set i (x1, x2, r, x4))) := (own_setG (α := B4) hown6 Hx.out 2 (x1, x2, r, x4) (.int .i64 r) (by decide) rfl).1
      have Hs := Lib.hid hs
      have hl2 : Hid ((S.set i (x1, x2, r, x4)).length = k) := by unfold Hid; rw [List.length_set, hk.out]
      have hCs := Lib.hid (CurP.set hC6 (p := ⟨gg, i * 4 + 2, none⟩) (by show w0.heap.size ≤ gg; omega) (by exact hgne) (.int .i64 r))
      have hgs := Lib.hid (grow_set hgw6 (p := ⟨gg, i * 4 + 2, none⟩) (by exact hg1) (.int .i64 r))
      clear hown6 hs
      go_wp2_with fail
      go_meet
      exact ⟨S.set i (x1, x2, r, x4), some ⟨gg, 0, none⟩, d, by rw [hl2.out], by rw [hl2.out]; omega, all_set hB.out i ⟨hxb.1, hxb.2.1, hrb, hxb.2.2.2⟩, by rw [hl2.out]; exact Hs.out, ⟨hCs.out.mono (by omega), hgs.out⟩⟩
    by_cases v3 : v = 3
    · subst v3
      have hce := own_cellsG (α := B4) hk.out hown5 Hx.out
      have e2 : w5.cell? ⟨gg, i * 4 + 2, none⟩ = some (.int .i64 x3) := hce 2 _ rfl
      have e3 : w5.cell? ⟨gg, i * 4 + 3, none⟩ = some (.int .i64 x4) := hce 3 _ rfl
      have fz5 := World.ownsRow.frozenAt hown5 (i * 4 + 3)
      have q1 : IntKind.i64.wrap (x4 + 1) = x4 + 1 := IntWalk.i64_in _ (by have := hxb.2.2.2; omega)
      have hlt5 := CurP.lt hC5
      have Hown5 := Lib.hid hown5
      have HC5 := Lib.hid hC5
      have Hgw5 := Lib.hid hgw5
      clear hce hown5 hC5 hgw5
      go_wp2_with fail
      go_region_law (first | (go_simp; go_at_call 82; refine (s_among w0 _ g (m + 60 + 2 + 2) w5.heap.size 4 _ 3 (by omega) (by omega) (HC5.out.to (show Gw w5 _ from (by (repeat (first | with_reducible exact Gw.refl _ | with_reducible assumption | ((with_reducible refine Gw.set ?_ ?_ _); rotate_left; (focus (first | (simp; done) | (simp; omega) | omega))) | with_reducible refine Gw.alloc ?_ _ | with_reducible refine Gw.drew ?_ | with_reducible refine Gw.drewN ?_ _ | (refine Gw.trans ?_ (by with_reducible assumption))))))) (by exact heap_alloc_new w5 _) (by omega) (by simp [SmV]; omega) (by first | rfl | simp) (by omega)).mono ?_; rintro e w6 ⟨r, rfl, ⟨hr1', hr2', hrm⟩, hC6, hr6⟩; have hrb : Tm r := (by simp at hrm; omega); clear hrm; have hgw6 : w.grownBy w6 (some g) := grownBy_trans Hgw5.out (grownBy_trans (gw_grow (show Gw w5 _ from (by (repeat (first | with_reducible exact Gw.refl _ | with_reducible assumption | ((with_reducible refine Gw.set ?_ ?_ _); rotate_left; (focus (first | (simp; done) | (simp; omega) | omega))) | with_reducible refine Gw.alloc ?_ _ | with_reducible refine Gw.drew ?_ | with_reducible refine Gw.drewN ?_ _ | (refine Gw.trans ?_ (by with_reducible assumption)))))) g) hr6); have hown6 := own_grow (own_gw Hown5.out (show Gw w5 _ from (by (repeat (first | with_reducible exact Gw.refl _ | with_reducible assumption | ((with_reducible refine Gw.set ?_ ?_ _); rotate_left; (focus (first | (simp; done) | (simp; omega) | omega))) | with_reducible refine Gw.alloc ?_ _ | with_reducible refine Gw.drew ?_ | with_reducible refine Gw.drewN ?_ _ | (refine Gw.trans ?_ (by with_reducible assumption))))))) hr6 hlt; have hce := own_cellsG (α := B4) hk.out hown6 Hx.out; have e6 : w6.cell? ⟨gg, i * 4 + 3, none⟩ = some (.int .i64 x4) := hce 3 _ rfl; have fz6 := World.ownsRow.frozenAt hown6 (i * 4 + 3); have Hown6 := Lib.hid hown6; clear hce hown6))
      all_goals
        have hown6 := Hown6.out
        clear Hown6
        have hs : (w6.setCell ⟨gg, i * 4 + 3, none⟩ (.int .i64 r)).ownsRow w.heap.size 88 4 (.slice (some ⟨gg, 0, none⟩) k d) k (flat (S.set i (x1, x2, x3, r))) := (own_setG (α := B4) hown6 Hx.out 3 (x1, x2, x3, r) (.int .i64 r) (by decide) rfl).1
        have Hs := Lib.hid hs
        have hl2 : Hid ((S.set i (x1, x2, x3, r)).length = k) := by unfold Hid; rw [List.length_set, hk.out]
        have hCs := Lib.hid (CurP.set hC6 (p := ⟨gg, i * 4 + 3, none⟩) (by show w0.heap.size ≤ gg; omega) (by exact hgne) (.int .i64 r))
        have hgs := Lib.hid (grow_set hgw6 (p := ⟨gg, i * 4 + 3, none⟩) (by exact hg1) (.int .i64 r))
        clear hown6 hs
        go_wp2_with fail
        go_meet
        exact ⟨S.set i (x1, x2, x3, r), some ⟨gg, 0, none⟩, d, by rw [hl2.out], by rw [hl2.out]; omega, all_set hB.out i ⟨hxb.1, hxb.2.1, hxb.2.2.1, hrb⟩, by rw [hl2.out]; exact Hs.out, ⟨hCs.out.mono (by omega), hgs.out⟩⟩
    have b0 : (v == 0) = false := by simp [v0]
    have b1 : (v == 1) = false := by simp [v1]
    have b2 : (v == 2) = false := by simp [v2]
    have b3 : (v == 3) = false := by simp [v3]
    go_wp2_with fail
    go_meet
    exact ⟨S, some ⟨gg, 0, none⟩, d, by rw [hk.out], by rw [hk.out]; omega, sm_tm HB.out, by rw [hk.out]; exact hown5, ⟨hC5.mono (by omega), hgw5⟩⟩
  case rest =>
  clear HB Hcur hown hS
  clear S D d
  obtain ⟨S, D, d, rfl, hS, HB, hown, Hcur⟩ := hcut
  go_wp2_with fail
  refine (s_one w0 _ g (m + 80) 24 (by omega) (by omega) Hcur.out.1).mono ?_
  rintro _ w2 ⟨b, rfl, hC2, hr2⟩
  have hgw2 : w.grownBy w2 (some g) := grownBy_trans Hcur.out.2 hr2
  have hown2 := own_grow hown hr2 hlt
  cases b with
  | false =>
    go_wp2_with fail
    go_ret
    exact ⟨S, D, d, rfl, HB.out, by omega, hown2, hC2.mono (by omega), hgw2⟩
  | true =>
    go_wp2_with fail
    refine (c_pick (w0 := w0) hC2 (by omega) (by omega)).mono ?_
    rintro _ w3 ⟨v, rfl, ⟨hv1, hv2, hv3⟩, hC3, hr3⟩
    have hv4 := hv3 (by omega)
    have wv : IntKind.i64.wrap (6 + v) = 6 + v := IntWalk.i64_in _ (by omega)
    obtain ⟨n, hnv⟩ : ∃ n : Nat, 6 + v = n := ⟨(6 + v).toNat, by omega⟩
    have hn7 : n ≤ 7 := by omega
    rw [hnv] at wv
    have hcut := Lib.hid (And.intro hC3 (grownBy_trans hgw2 hr3))
    clear hown hown2 HB hS Hcur hC2 hr2 hC3 hr3 hgw2 hv1 hv2 hv3 hv4
    go_wp2_with fail
    go_loopw [7] (fun o wr => ∃ (l : List B4) (D : Option Addr) (d : Nat), o = .slice D l.length d ∧ l.length ≤ n ∧ Hid (∀ x ∈ l, TmB x) ∧ wr.ownsRow w.heap.size 88 4 (.slice D l.length d) l.length (flat l) ∧ Hid (CurP w0 wr g (m + 90) ∧ w.grownBy wr (some g))) (fun o _ => n - sliceLen o)
    case atStart => exact ⟨[], none, 0, rfl, by simp, all_nil, World.ownsRow_nil _ _ _ _, ⟨hcut.out.1.mono (by omega), hcut.out.2⟩⟩
    case round =>
      clear hcut
      obtain ⟨l, D, d, rfl, hl, hB, hown, hcur⟩ := hrel
      obtain ⟨wo, rfl⟩ : ∃ wo : World, wo = wr := ⟨_, rfl⟩
      obtain ⟨k, hk⟩ : ∃ k, Hid (l.length = k) := ⟨_, rfl⟩
      rw [hk.out] at hl hown ⊢
      have hs4 := hcur.out.2.size
      by_cases hlt2 : k < n
      · have hkz : (k : Int) < (n : Int) := by omega
        have wk : IntKind.i64.wrap (1 + (k : Int)) = 1 + (k : Int) := IntWalk.i64_in _ (by omega)
        have hB2 := Lib.hid (all_snoc (x := ((1 + (k : Int), 1 + (k : Int), 5, 7) : B4)) hB.out ⟨by dsimp only; omega, by dsimp only; omega, by dsimp only; omega, by dsimp only; omega⟩)
        go_wp2_with (at_builtin; go_loud (refine wpList_push2 (α := B4) rfl (.tmp 126) (.tmp 134) 43 rfl w.heap.size 88 i0 _ 32 Try.underlying43 hi hz0 hz1 hz2 rfl (by omega) l D d (by rw [hk.out]; rfl) wo (1 + (k : Int), 1 + (k : Int), 5, 7) rfl wo.heap.size rfl rfl (by rw [hk.out]; exact hown) (by rw [hk.out]; omega) hs4 ?_); intro acc' A' c'' w9 hacc' hl1 hl2 hown' hgr hblk _)
        rw [hk.out] at hl1 hl2
        go_roundw
        case rel => exact ⟨acc', A', c'', rfl, by omega, by unfold Hid; rw [hacc'.out]; exact hB2.out, hown', ⟨cur_push hcur.out.1 hlt hw0 hgr (by rw [hk.out]; exact fun k hk => (hown.lt k hk).1), grow_push hcur.out.2 hgr (by rw [hk.out]; exact fun k hk => (hown.lt k hk).1)⟩⟩
        case measure => simp only [sliceLen_mk]; have := hk.out; omega
      · go_wp2_with fail
        go_ret
        exact ⟨l, D, d, by rw [hk.out]; rfl, hB.out, by rw [hk.out]; omega, by rw [hk.out]; exact hown, hcur.out.1.mono (by omega), hcur.out.2⟩

set_option maxHeartbeats 8000000 in
set_option maxRecDepth 100000 in
theorem s_booked {w0 w : World} {g m : Nat} (hC : CurP w0 w g m) (hm : m ≤ 10000000) (A : Option Addr) (cA : Nat) (W : List (Int × Int × Int)) (hlW : W.length ≤ 1048576) (hA : Rd w A W) (B : Option Addr) (cB : Nat) (L : List R2) (hlL : L.length ≤ 1048576) (hB : Rd w B L) :
    Calls Try.prog 75 #[.pointer (some ⟨g, 0, none⟩), .slice A W.length cA, .slice B L.length cB] w fun e w' => ∃ (l : List B4) (A : Option Addr) (c : Nat), e = .returned (.slice A l.length c) ∧ (∀ x ∈ l, TmB x) ∧ l.length ≤ 7 ∧ w'.ownsRow w.heap.size 88 4 (.slice A l.length c) l.length (flat l) ∧ CurP w0 w' g (m + 200) ∧ w.grownBy w' (some g) := by
  have hlt := CurP.lt hC
  have hw0 := hC.gw.size
  have Hm := Lib.hid hm
  go_enter Try.func75, Try.ntmps75
  go_wp2_with fail
  refine (s_wnGood _ _ _ _ hlW hA).mono ?_
  rintro _ w1 (⟨hp, rfl, hb1⟩ | ⟨hp, rfl, hb1⟩)
  case inr =>
    clear hp
    have hC1 := hC.to hb1
    have hg1 := gw_grow hb1 g
    dsimp only
    repeat (first | (go_at_K; go_step; exact booked_tail (S := []) hlt hw0 (Nat.le_trans Hm.out (by decide)) (by simp) all_nil (World.ownsRow_nil _ _ _ _) hC1 hg1) | go_step)
  have HW := Lib.hid hp
  clear hp
  go_wp2_with fail
  refine (s_reGood _ _ _ _ hlL (hB.gw hb1)).mono ?_
  rintro _ w2 (⟨hp, rfl, hb2⟩ | ⟨hp, rfl, hb2⟩)
  case inr =>
    clear hp
    have hC1 := hC.to (hb1.trans hb2)
    have hg1 := gw_grow (hb1.trans hb2) g
    dsimp only
    repeat (first | (go_at_K; go_step; exact booked_tail (S := []) hlt hw0 (Nat.le_trans Hm.out (by decide)) (by simp) all_nil (World.ownsRow_nil _ _ _ _) hC1 hg1) | go_step)
  have HP := Lib.hid hp
  have hl6 := hp.2
  clear hp
  have hG2 := Gw.trans hb1 hb2
  go_wp2_with fail
  refine (s_reOrder _ _ L.length _ (by omega)).mono ?_
  rintro _ w3 ⟨A3, c3, rfl, hown3, hb3⟩
  have hG3 := Gw.trans hG2 hb3
  have hO3 : Rd w3 A3 (upN L.length) := own_rd (c := c3) (by rw [upN_len]; exact hown3)
  have HO := Lib.hid hO3
  clear hO3
  go_wp2_with fail
  refine (s_reSchedule _ _ _ _ _ _ L _ _ _ hlW (hA.gw hG3) rfl (by omega) (hB.gw hG3) HO.out HW.out HP.out.1).mono ?_
  rintro _ w4 ⟨A4, c4, rfl, hown4, hb4⟩
  have hG4 := Gw.trans hG3 hb4
  obtain ⟨ht1, ht2⟩ := goF_tm HW.out HP.out
  generalize (goF W L).1 = S at *
  generalize (goF W L).2 = o at *
  have hC1 := hC.to hG4
  have hg1 := gw_grow hG4 g
  dsimp only
  repeat (first | (go_at_K; go_step; exact booked_tail (S := S) hlt hw0 (Nat.le_trans Hm.out (by decide)) ht2 ht1 (own_lower hown4 hG3.size) hC1 hg1) | go_step)
end Go.Proofs.Ytipndibiioajmaa
