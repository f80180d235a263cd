/-
  Draws of edits: a list of them.
-/
import Derived.Test.YtoofpajeogllhaaEdH
import Derived.Test.YtoofpajeogllhaaBetS
import Derived.Test.YtoofpajeogllhaaRun
namespace Go.Proofs.Ytoofpajeogllhaa
open Go.RowKit

abbrev Ed6 := Int × Int × Int × Int × Int × Int
set_option maxHeartbeats 8000000 in
set_option maxRecDepth 20000 in
theorem s_edits {w0 w : World} {g m base : Nat} (hC : CurP w0 w g m) (hm : m ≤ 90000000) (l : List (Int × Int)) (A : Option Addr) (c : Nat) (hn : l.length ≤ 13) (hown : w.ownsRow base 26 2 (.slice A l.length c) l.length (flat l)) (hgbase : g < base) (hbw : base ≤ w.heap.size) :
    Calls Try.prog 35 #[.pointer (some ⟨g, 0, none⟩), .slice A l.length c] w fun e w' => ∃ (es : List Ed6) (E : Option Addr) (ce : Nat), e = .returned (.slice E es.length ce) ∧ es.length ≤ 31 ∧ w'.ownsRow w.heap.size 28 6 (.slice E es.length ce) es.length (flat es) ∧ CurP w0 w' g (m + 1100) ∧ w.grownBy w' (some g) := by
  obtain ⟨i0, hi, hz0, hz1, hz2⟩ := info_parts infoEdit
  have hlt := CurP.lt hC
  have hw0 := hC.gw.size
  have hne : ∀ {b : Nat}, ¬g = b → (some g : Option Nat) ≠ some b := fun h e => h (Option.some.inj e)
  go_enter Try.func35, Try.ntmps35
  go_wp2_with fail
  refine (c_pick (w0 := w0) hC (by omega) (by omega)).mono ?_
  rintro _ w1 ⟨v, rfl, ⟨hv1, hv2, hv3⟩, hC1, hr1⟩
  have hv4 := hv3 (by omega)
  obtain ⟨K0, rfl⟩ : ∃ K : Nat, v = K := ⟨v.toNat, by omega⟩
  have hown1 := own_grow hown hr1 hgbase
  clear hv3
  go_wp2_with fail
  go_loopw [5, 6, 7, 8, 9, 10] (fun o q kk _ _ _ wr => ∃ (T K : Nat) (es : List Ed6) (E : Option Addr) (ce : Nat) (nl : List (Int × Int)) (NA : Option Addr) (nc : Nat), o = .slice E es.length ce ∧ q = .slice NA nl.length nc ∧ kk = .int .i64 K ∧ es.length ≤ T ∧ T + K ≤ 7 ∧ nl.length ≤ 13 ∧ wr.ownsRow base 26 2 (.slice NA nl.length nc) nl.length (flat nl) ∧ wr.ownsRow w.heap.size 28 6 (.slice E es.length ce) es.length (flat es) ∧ Hid (CurP w0 wr g (m + 10 + 130 * T) ∧ w.grownBy wr (some g))) (fun _ _ kk _ _ _ _ => (intOf kk).toNat)
  case atStart => exact ⟨0, K0, [], none, 0, l, A, c, rfl, rfl, rfl, by simp, by omega, hn, hown1, World.ownsRow_nil _ _ _ _, ⟨hC1.mono (by omega), hr1⟩⟩
  case round =>
    clear hown1 hC1 hr1
    obtain ⟨T, K, es, E, ce, nl, NA, nc, rfl, rfl, rfl, hT, hTK, hn', hnow, hout, hcur⟩ := hrel
    obtain ⟨wo, rfl⟩ : ∃ wo : World, wo = wr := ⟨_, rfl⟩
    by_cases hK : 0 < K
    · have hKz : (0 : Int) < (K : Int) := by omega
      have wK : IntKind.i64.wrap ((K : Int) - 1) = ((K - 1 : Nat) : Int) := by rw [IntWalk.i64_in _ (by omega)]; omega
      go_wp2_with fail
      refine (s_editOf (w0 := w0) hcur.out.1 (by omega) nl NA nl.length nc rfl hn' hnow hgbase).mono ?_
      rintro _ w2 ⟨ed, p, b1, b2, a1, a2, rfl, hC2, hr2⟩
      have hnow2 := own_grow hnow hr2 hgbase
      have hout2 := own_grow hout hr2 hlt
      have hg2 := grownBy_trans hcur.out.2 hr2
      have hs2 := hg2.size
      have bE := BoxR.new w2 #[.int .i64 ed, .int .i64 p, .int .i64 b1, .int .i64 b2, .int .i64 a1, .int .i64 a2] 28
      have hC3 := hC2.alloc (.cells #[.int .i64 ed, .int .i64 p, .int .i64 b1, .int .i64 b2, .int .i64 a1, .int .i64 a2] 28)
      have hg3 := grow_alloc hg2 (.cells #[.int .i64 ed, .int .i64 p, .int .i64 b1, .int .i64 b2, .int .i64 a1, .int .i64 a2] 28)
      have hnow3 := hnow2.alloc (.cells #[.int .i64 ed, .int .i64 p, .int .i64 b1, .int .i64 b2, .int .i64 a1, .int .i64 a2] 28)
      have hout3 := hout2.alloc (.cells #[.int .i64 ed, .int .i64 p, .int .i64 b1, .int .i64 b2, .int .i64 a1, .int .i64 a2] 28)
      clear hnow hout hr2 hcur hnow2 hout2 hC2
      have hcap := own_cap2 hnow3
      go_wp2_with fail
      refine (s_chGood _ _ _ _ (by omega) (own_rd hnow3) hcap).mono ?_
      rintro _ w4 (⟨-, rfl, hb4⟩ | ⟨-, rfl, hb4⟩)
      rotate_left
      · have bE4 := bE.gw hb4
        have hC4 := hC3.to hb4
        have hg4 := grownBy_trans hg3 (gw_grow hb4 g)
        have hnow4 := own_gw hnow3 hb4
        have hout4 := own_gw hout3 hb4
        have hs4 := hg4.size
        have e0 := bE4.cell 0 rfl
        have e1 := bE4.cell 1 rfl
        have e2 := bE4.cell 2 rfl
        have e3 := bE4.cell 3 rfl
        have e4 := bE4.cell 4 rfl
        have e5 := bE4.cell 5 rfl
        clear hnow3 hout3 bE hC3 hg3
        go_wp2_with (at_builtin; go_loud (refine wpList_push2 (α := Ed6) rfl (.tmp 30) (.tmp 32) 36 rfl w.heap.size 28 i0 _ 48 Try.underlying36 hi hz0 hz1 hz2 rfl (by omega) es E ce rfl w4 (ed, p, b1, b2, a1, a2) rfl w4.heap.size rfl rfl hout4 (by omega) hs4 ?_); intro acc' A' c'' w9 hacc' hl1 hl2 hown' hgr hblk _)
        have hT9 : acc'.length ≤ T + 1 := by omega
        have hnow9 := own_beside (by decide) hnow4 hout4 hgr
        clear hl1 hl2
        go_roundw
        case rel => exact ⟨T + 1, K - 1, acc', A', c'', nl, NA, nc, rfl, rfl, by go_num, hT9, by omega, hn', hnow9, hown', ⟨(cur_push hC4 hlt hw0 hgr (fun k hk => (hout4.lt k hk).1)).mono (by omega), grow_push hg4 hgr (fun k hk => (hout4.lt k hk).1)⟩⟩
        case measure => simp [intOf]; omega
      have bE4 := bE.gw hb4
      have hC4 := hC3.to hb4
      have hg4 := grownBy_trans hg3 (gw_grow hb4 g)
      have hnow4 := own_gw hnow3 hb4
      have hout4 := own_gw hout3 hb4
      have e0 := bE4.cell 0 rfl
      have e1 := bE4.cell 1 rfl
      have e2 := bE4.cell 2 rfl
      have e3 := bE4.cell 3 rfl
      have e4 := bE4.cell 4 rfl
      have e5 := bE4.cell 5 rfl
      clear hnow3 hout3 bE hC3 hg3
      go_wp2_with fail
      refine (s_edGood _ _ _ _ _ _ _).mono ?_
      rintro _ w5 (⟨-, rfl, hb5⟩ | ⟨-, rfl, hb5⟩)
      rotate_left
      · have bE5 := bE4.gw hb5
        have hC5 := hC4.to hb5
        have hg5 := grownBy_trans hg4 (gw_grow hb5 g)
        have hnow5 := own_gw hnow4 hb5
        have hout5 := own_gw hout4 hb5
        have hs5 := hg5.size
        have e0 := bE5.cell 0 rfl
        have e1 := bE5.cell 1 rfl
        have e2 := bE5.cell 2 rfl
        have e3 := bE5.cell 3 rfl
        have e4 := bE5.cell 4 rfl
        have e5 := bE5.cell 5 rfl
        clear hnow4 hout4 bE4 hC4 hg4
        go_wp2_with (at_builtin; go_loud (refine wpList_push2 (α := Ed6) rfl (.tmp 30) (.tmp 32) 36 rfl w.heap.size 28 i0 _ 48 Try.underlying36 hi hz0 hz1 hz2 rfl (by omega) es E ce rfl w5 (ed, p, b1, b2, a1, a2) rfl w5.heap.size rfl rfl hout5 (by omega) hs5 ?_); intro acc' A' c'' w9 hacc' hl1 hl2 hown' hgr hblk _)
        have hT9 : acc'.length ≤ T + 1 := by omega
        have hnow9 := own_beside (by decide) hnow5 hout5 hgr
        clear hl1 hl2
        go_roundw
        case rel => exact ⟨T + 1, K - 1, acc', A', c'', nl, NA, nc, rfl, rfl, by go_num, hT9, by omega, hn', hnow9, hown', ⟨(cur_push hC5 hlt hw0 hgr (fun k hk => (hout5.lt k hk).1)).mono (by omega), grow_push hg5 hgr (fun k hk => (hout5.lt k hk).1)⟩⟩
        case measure => simp [intOf]; omega
      have bE5 := bE4.gw hb5
      have hC5 := hC4.to hb5
      have hg5 := grownBy_trans hg4 (gw_grow hb5 g)
      have hnow5 := own_gw hnow4 hb5
      have hout5 := own_gw hout4 hb5
      have hs5 := hg5.size
      have e0 := bE5.cell 0 rfl
      have e1 := bE5.cell 1 rfl
      have e2 := bE5.cell 2 rfl
      have e3 := bE5.cell 3 rfl
      have e4 := bE5.cell 4 rfl
      have e5 := bE5.cell 5 rfl
      clear hnow4 hout4 bE4 hC4 hg4
      go_wp2_with fail
      refine (s_edApply' _ _ _ nl ed p b1 b2 a1 a2 _ rfl (by omega) (own_rd hnow5)).mono ?_
      rintro _ w6 ⟨A6, c6, rfl, hown6, hb6⟩
      have bE6 := bE5.gw hb6
      have hC6 := hC5.to hb6
      have hg6 := grownBy_trans hg5 (gw_grow hb6 g)
      have hnow6 := own_gw hnow5 hb6
      have hout6 := own_gw hout5 hb6
      have hs6 := hg6.size
      have hml := moveF_len nl p b1 b2 a1 a2
      have hown6 := own_lower hown6 (show base ≤ w5.heap.size by omega)
      have e0 := bE6.cell 0 rfl
      have e1 := bE6.cell 1 rfl
      have e2 := bE6.cell 2 rfl
      have e3 := bE6.cell 3 rfl
      have e4 := bE6.cell 4 rfl
      have e5 := bE6.cell 5 rfl
      clear hnow5 hout5 bE5 hC5 hg5
      have hnx : (moveF nl p b1 b2 a1 a2).1.length ≤ 13 := by omega
      clear hml
      obtain ⟨ok, hok⟩ : ∃ ok, (moveF nl p b1 b2 a1 a2).2 = ok := ⟨_, rfl⟩
      rw [hok]
      clear hok
      generalize (moveF nl p b1 b2 a1 a2).1 = nx at *
      cases ok with
      | true =>
        clear hnow6
        go_wp2_with (at_builtin; go_loud (refine wpList_push2 (α := Ed6) rfl (.tmp 45) (.tmp 47) 36 rfl w.heap.size 28 i0 _ 48 Try.underlying36 hi hz0 hz1 hz2 rfl (by omega) es E ce rfl w6 (ed, p, b1, b2, a1, a2) rfl w6.heap.size rfl rfl hout6 (by omega) hs6 ?_); intro acc' A' c'' w9 hacc' hl1 hl2 hown' hgr hblk _)
        have hT9 : acc'.length ≤ T + 1 := by omega
        have hnow9 := own_beside (by decide) hown6 hout6 hgr
        clear hl1 hl2
        go_roundw
        case rel => exact ⟨T + 1, K - 1, acc', A', c'', nx, A6, c6, rfl, rfl, by go_num, hT9, by omega, by omega, hnow9, hown', ⟨(cur_push hC6 hlt hw0 hgr (fun k hk => (hout6.lt k hk).1)).mono (by omega), grow_push hg6 hgr (fun k hk => (hout6.lt k hk).1)⟩⟩
        case measure => simp [intOf]; omega
      | false =>
        go_wp2_with fail
        refine (s_one w0 _ g _ 4 (by omega) (by omega) hC6).mono ?_
        rintro _ w7 ⟨b, rfl, hC7, hr7⟩
        have hnow7 := own_grow hnow6 hr7 hgbase
        have hout7 := own_grow hout6 hr7 hlt
        have hg7 := grownBy_trans hg6 hr7
        have hs7 := hg7.size
        have bE7 := bE6.grown hr7 (hne (by omega))
        have e0 := bE7.cell 0 rfl
        have e1 := bE7.cell 1 rfl
        have e2 := bE7.cell 2 rfl
        have e3 := bE7.cell 3 rfl
        have e4 := bE7.cell 4 rfl
        have e5 := bE7.cell 5 rfl
        clear hnow6 hout6 bE6 hC6 hg6
        cases b with
        | false =>
          go_wp2_with fail
          go_roundw
          case rel => exact ⟨T + 1, K - 1, es, E, ce, nl, NA, nc, rfl, rfl, by go_num, by omega, by omega, hn', hnow7, hout7, ⟨hC7.mono (by omega), hg7⟩⟩
          case measure => simp [intOf]; omega
        | true =>
          go_wp2_with (at_builtin; go_loud (refine wpList_push2 (α := Ed6) rfl (.tmp 45) (.tmp 47) 36 rfl w.heap.size 28 i0 _ 48 Try.underlying36 hi hz0 hz1 hz2 rfl (by omega) es E ce rfl w7 (ed, p, b1, b2, a1, a2) rfl w7.heap.size rfl rfl hout7 (by omega) hs7 ?_); intro acc' A' c'' w9 hacc' hl1 hl2 hown' hgr hblk _)
          have hT9 : acc'.length ≤ T + 1 := by omega
          have hnow9 := own_beside (by decide) hnow7 hout7 hgr
          clear hl1 hl2
          go_roundw
          case rel => exact ⟨T + 1, K - 1, acc', A', c'', nl, NA, nc, rfl, rfl, by go_num, hT9, by omega, hn', hnow9, hown', ⟨(cur_push hC7 hlt hw0 hgr (fun k hk => (hout7.lt k hk).1)).mono (by omega), grow_push hg7 hgr (fun k hk => (hout7.lt k hk).1)⟩⟩
          case measure => simp [intOf]; omega
    · obtain rfl : K = 0 := by omega
      go_wp2_with fail
      refine (s_one w0 _ g _ 24 (by omega) (by omega) hcur.out.1).mono ?_
      rintro _ w2 ⟨b, rfl, hC2, hr2⟩
      have hout2 := own_grow hout hr2 hlt
      have hg2 := grownBy_trans hcur.out.2 hr2
      cases b with
      | false =>
        go_wp2_with fail
        go_ret
        exact ⟨es, E, ce, rfl, by omega, hout2, hC2.mono (by omega), hg2⟩
      | true =>
        go_wp2_with fail
        refine (c_pick (w0 := w0) hC2 (by omega) (by omega)).mono ?_
        rintro _ w3 ⟨v, rfl, ⟨hv1, hv2, hv3⟩, hC3, hr3⟩
        have hv4 := hv3 (by omega)
        have w3v : IntKind.i64.wrap (30 + v) = 30 + v := IntWalk.i64_in _ (by omega)
        have hout3 := own_grow hout2 hr3 hlt
        have hg3 := grownBy_trans hg2 hr3
        clear hv3 hout hout2 hnow
        go_wp2_with fail
        go_loopw [5] (fun o wr => ∃ (es : List Ed6) (E : Option Addr) (ce : Nat), o = .slice E es.length ce ∧ es.length ≤ 31 ∧ wr.ownsRow w.heap.size 28 6 (.slice E es.length ce) es.length (flat es) ∧ Hid (CurP w0 wr g (m + 1000) ∧ w.grownBy wr (some g))) (fun o _ => 40 - sliceLen o)
        case atStart => exact ⟨es, E, ce, rfl, by omega, hout3, ⟨hC3.mono (by omega), hg3⟩⟩
        case round =>
          clear hout3 hC3 hg3
          obtain ⟨es, E, ce, rfl, hes, hout3, hcur3⟩ := hrel
          have hs3 := hcur3.out.2.size
          have wl : IntKind.i64.wrap (1 + (es.length : Int)) = 1 + (es.length : Int) := IntWalk.i64_in _ (by omega)
          by_cases hl : (es.length : Int) < 30 + v
          · go_wp2_with (at_builtin; go_loud (refine wpList_push2 (α := Ed6) rfl (.tmp 58) (.tmp 64) 36 rfl w.heap.size 28 i0 _ 48 Try.underlying36 hi hz0 hz1 hz2 rfl (by omega) es E ce rfl wr (9, 11, 0, 0, 1 + (es.length : Int), 0) rfl wr.heap.size rfl rfl hout3 (by omega) hs3 ?_); intro acc' A' c'' w9 hacc' hl1 hl2 hown' hgr hblk _)
            have hT9 : acc'.length ≤ 31 := by omega
            have hT8 : es.length < acc'.length := hl1
            clear hl1 hl2
            go_roundw
            case rel => exact ⟨acc', A', c'', rfl, hT9, hown', ⟨cur_push hcur3.out.1 hlt hw0 hgr (fun k hk => (hout3.lt k hk).1), grow_push hcur3.out.2 hgr (fun k hk => (hout3.lt k hk).1)⟩⟩
            case measure => simp [sliceLen]; omega
          · go_wp2_with fail
            go_ret
            exact ⟨es, E, ce, rfl, hes, hout3, hcur3.out.1.mono (by omega), hcur3.out.2⟩
end Go.Proofs.Ytoofpajeogllhaa
