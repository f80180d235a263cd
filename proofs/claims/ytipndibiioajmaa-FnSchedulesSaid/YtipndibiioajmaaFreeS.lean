/-
  The reference's FreeWindows.
-/
import Derived.Test.YtipndibiioajmaaFreeI
import Derived.Test.YtipndibiioajmaaPush
namespace Go.Proofs.Ytipndibiioajmaa
open Go.RowKit

set_option maxHeartbeats 4000000 in
set_option maxRecDepth 20000 in
theorem s_FreeWindows (A : Option Addr) (cA : Nat) (W : List W3) (B : Option Addr) (cB : Nat) (S : List B4) (w : World) (hl : W.length ≤ 1048576) (hA : Rd w A W) (_hc : W.length ≤ cA) (hl2 : S.length ≤ 1048576) (hB : Rd w B S) (hc2 : S.length ≤ cB) :
    Calls Try.prog 23 #[.slice A W.length cA, .slice B S.length cB] w fun e w' => ∃ A c', e = .returned (.tuple #[.slice A (freeF W S).1.length c', .bool (freeF W S).2]) ∧
      w'.ownsRow w.heap.size 71 3 (.slice A (freeF W S).1.length c') (freeF W S).1.length (flat (freeF W S).1) ∧ Gw w w' := by
  obtain ⟨i0, hi, hz0, hz1, hz2⟩ := info_parts infoWindow
  have HA := Lib.hid hA
  have HB := Lib.hid hB
  clear hA hB
  go_enter Try.func23, Try.ntmps23
  go_wp2_with fail
  refine (s_wnGood _ _ _ _ hl HA.out).mono ?_
  rintro _ w1 (⟨hp, rfl, hb1⟩ | ⟨hp, rfl, hb1⟩)
  case inr =>
    have hno := Lib.hid (freeF_bad (W := W) (S := S) (fun h => hp h.1))
    clear hp
    go_wp2_with fail
    go_ret2
    exact ⟨none, 0, ret_lb (A := none) (c := 0) hno.out, by rw [hno.out]; exact World.ownsRow_nil _ _ _ _, by (repeat (first | with_reducible exact Gw.refl _ | with_reducible assumption | ((with_reducible refine Gw.set ?_ ?_ _); rotate_left; (focus (first | (simp; done) | (simp; omega) | omega))) | with_reducible refine Gw.alloc ?_ _ | with_reducible refine Gw.drew ?_ | with_reducible refine Gw.drewN ?_ _ | (refine Gw.trans ?_ (by with_reducible assumption))))⟩
  have HW := Lib.hid hp
  clear hp
  go_wp2_with fail
  refine (s_reBooked _ _ _ _ hl2 (HB.out.gw (by (repeat (first | with_reducible exact Gw.refl _ | with_reducible assumption | ((with_reducible refine Gw.set ?_ ?_ _); rotate_left; (focus (first | (simp; done) | (simp; omega) | omega))) | with_reducible refine Gw.alloc ?_ _ | with_reducible refine Gw.drew ?_ | with_reducible refine Gw.drewN ?_ _ | (refine Gw.trans ?_ (by with_reducible assumption)))))) hc2).mono ?_
  rintro _ w2 (⟨hp, rfl, hb2⟩ | ⟨hp, rfl, hb2⟩)
  case inr =>
    have hno := Lib.hid (freeF_bad (W := W) (S := S) (fun h => hp h.2))
    clear hp
    go_wp2_with fail
    go_ret2
    exact ⟨none, 0, ret_lb (A := none) (c := 0) hno.out, by rw [hno.out]; exact World.ownsRow_nil _ _ _ _, by (repeat (first | with_reducible exact Gw.refl _ | with_reducible assumption | ((with_reducible refine Gw.set ?_ ?_ _); rotate_left; (focus (first | (simp; done) | (simp; omega) | omega))) | with_reducible refine Gw.alloc ?_ _ | with_reducible refine Gw.drew ?_ | with_reducible refine Gw.drewN ?_ _ | (refine Gw.trans ?_ (by with_reducible assumption))))⟩
  have HS := Lib.hid hp
  clear hp
  have HF := Lib.hid (freeF_ok ⟨HW.out, HS.out⟩)
  have hg2 : Gw w w2 := by (repeat (first | with_reducible exact Gw.refl _ | with_reducible assumption | ((with_reducible refine Gw.set ?_ ?_ _); rotate_left; (focus (first | (simp; done) | (simp; omega) | omega))) | with_reducible refine Gw.alloc ?_ _ | with_reducible refine Gw.drew ?_ | with_reducible refine Gw.drewN ?_ _ | (refine Gw.trans ?_ (by with_reducible assumption))))
  have hzg2 := hg2.size
  have H0 := Lib.hid (freeT_zero (S := S) HW.out)
  have HP : Hid (∀ x ∈ S, 0 ≤ x.2.2.2 ∧ x.2.2.2 ≤ 168) := fun x hx => by have := HS.out.1 x hx; omega
  have hst := Lib.hid (fOut_zero S HW.out)
  go_wp2_with fail
  go_loopw [6, 8, 9, 10, 21] (fun o _ _ _ q wr => ∃ (k : Nat) (acc : List W3) (D : Option Addr) (d : Nat), q = .int .i64 k ∧ k ≤ W.length ∧ o = .slice D acc.length d ∧ Hid (acc = fOut (freeT (tabOf W) S) W k) ∧ wr.ownsRow w.heap.size 71 3 (.slice D acc.length d) acc.length (flat acc) ∧ Gw w wr) (fun _ _ _ _ q _ => W.length - (intOf q).toNat)
  case atStart => exact ⟨0, [], none, 0, by go_num, Nat.zero_le _, rfl, hst.out.symm, World.ownsRow_nil _ _ _ _, hg2⟩
  case round =>
    obtain ⟨k, acc, D, d, rfl, hk, rfl, hacc, hown, hgw⟩ := hrel
    obtain ⟨wo, rfl⟩ : ∃ wo : World, wo = wr := ⟨_, rfl⟩
    by_cases hlt : k < W.length
    · obtain ⟨x, hx⟩ := get_of_lt hlt
      obtain ⟨p, f, t, rfl, h1, h2, h3, h4⟩ := winP_nat (HW.out.1 _ (mem_of_get hx))
      obtain ⟨b, off, rfl, hb, c0, c1, c2⟩ := (HA.out.gw hgw).get3 hx
      have hIn : Hid (FIn (freeT (tabOf W) S) p t f f acc) := by
        unfold Hid
        have ha := hacc.out
        unfold fOut at ha
        rw [begP_some hx] at ha
        rw [ha]
        refine FIn.start (by omega) ?_
        rcases Nat.eq_zero_or_pos f with e | e
        · exact .inl e
        · exact .inr (freeT_false (tabOf_before HW.out hx e))
      have Hnx := Lib.hid (fOut_next S HW.out hx)
      have Hx := Lib.hid hx
      clear hx
      dsimp only at c0 c1 c2
      have bx := Lib.hid (BoxR.new wo #[.int .i64 (p : Int), .int .i64 (f : Int), .int .i64 (t : Int)] 71)
      have hgb : Gw w (wo.alloc (.cells #[.int .i64 (p : Int), .int .i64 (f : Int), .int .i64 (t : Int)] 71)) := hgw.alloc _
      have hgwz := hgw.size
      have hap := Lib.hid (own_apart hown (Nat.le_refl wo.heap.size))
      have hownb := Lib.hid (own_gw hown ((Gw.refl wo).alloc (.cells #[.int .i64 (p : Int), .int .i64 (f : Int), .int .i64 (t : Int)] 71)))
      go_wp2_with fail
      go_loopw [6, 9, 10] (fun o gq q w3 => ∃ (h g : Nat) (acc : List W3) (D : Option Addr) (d : Nat), q = .int .i64 h ∧ gq = .int .i64 g ∧ f ≤ h ∧ h ≤ t + 1 ∧ g ≤ 169 ∧ o = .slice D acc.length d ∧ Hid (FIn (freeT (tabOf W) S) p t h g acc) ∧ w3.ownsRow w.heap.size 71 3 (.slice D acc.length d) acc.length (flat acc) ∧ BoxR w3 wo.heap.size #[.int .i64 (p : Int), .int .i64 (f : Int), .int .i64 (t : Int)] 71 ∧ Hid ((Value.slice D acc.length d).ownBlock ≠ some wo.heap.size) ∧ Gw w w3) (fun _ _ q _ => t + 1 - (intOf q).toNat)
      case atStart => exact ⟨f, f, acc, D, d, by go_num, by go_num, Nat.le_refl _, by omega, by omega, rfl, hIn, hownb.out, bx.out, hap, hgb⟩
      case round =>
        clear hown hacc hIn c0 c1 c2 hap
        obtain ⟨h, g, acc, D, d, rfl, rfl, hh1, hh2, hg9, rfl, hIn, hown, hbx, hap, hgwi⟩ := hrel
        obtain ⟨wi, rfl⟩ : ∃ wi : World, wi = wr := ⟨_, rfl⟩
        have hgz := hgwi.size
        have b0 := hbx.cell 0 rfl
        have b1 := hbx.cell 1 rfl
        have b2 := hbx.cell 2 rfl
        have Hbx := Lib.hid hbx
        have hwoz := hbx.lt
        clear hbx
        have hlen := hIn.out.len h2 h4
        by_cases hle : h ≤ t
        · by_cases hht : h < t
          · have hre := s_reAt B cB S (p : Int) (h : Int) wi hl2 (HB.out.gw hgwi) HP.out
            have hfr := Lib.hid (freeT_in (S := S) Hx.out hh1 hht)
            have hfa := Lib.hid (findP_any (p := atP (p : Int) (h : Int)) (S := S))
            rcases findP_cases (atP (p : Int) (h : Int)) S 0 with ⟨i, y, e1, e2, _⟩ | ⟨e1, _⟩
            · have hi6 : i < S.length := (List.getElem?_eq_some_iff.1 e2).1
              rw [Nat.zero_add] at e1
              rw [e1] at hre
              have hTf : Hid (freeT (tabOf W) S p h = false) := by
                unfold Hid
                rw [hfr.out]
                have : ¬S.any (atP (p : Int) (h : Int)) = false := fun hc => by
                  have := hfa.out.2 hc
                  rw [e1] at this
                  omega
                simpa using this
              have Hre := Lib.hid hre
              clear hre e1 e2
              have Hcl := Lib.hid (hIn.out.close H0.out h1 h4 hht hTf.out)
              by_cases hgh : g < h
              · have hgz2 : (g : Int) < (h : Int) := by omega
                rw [if_pos hgh] at Hcl
                go_wp2_with fail
                refine Hre.out.mono ?_
                rintro _ w4 ⟨rfl, hb4⟩
                have hown4 := own_gw hown hb4
                have d0 := (Hbx.out.gw hb4).cell 0 rfl
                have hz4 := hb4.size
                have hgz4 := (Gw.trans hgwi hb4).size
                go_wp2_with (at_builtin; go_loud (refine wpList_push2 (α := W3) rfl (.tmp 50) (.tmp 56) 29 rfl w.heap.size 71 i0 _ 24 Try.underlying29 hi hz0 hz1 hz2 rfl (by omega) acc D d rfl w4 ((p : Int), (g : Int), (h : Int)) rfl w4.heap.size rfl rfl hown4 (by omega) hgz4 ?_); intro acc' A' c'' w9 hacc' hl1 hl2' hown' hgr hblk hgg)
                go_roundw
                case rel => exact ⟨h + 1, h + 1, acc', A', c'', by go_num, by go_num, by omega, by omega, by omega, rfl, by unfold Hid; rw [hacc'.out]; exact Hcl.out, hown', (Hbx.out.gw hb4).grown hgr hap.out, by unfold Hid; rcases hblk with e | e <;> rw [e]; (exact hap.out); (intro h; have := Option.some.inj h; omega), hgg _ (Gw.trans hgwi hb4) (Nat.le_refl _)⟩
                case measure => simp [intOf] <;> omega
              · have hgz2 : ¬(g : Int) < (h : Int) := by omega
                rw [if_neg hgh] at Hcl
                go_wp2_with fail
                refine Hre.out.mono ?_
                rintro _ w4 ⟨rfl, hb4⟩
                have hown4 := own_gw hown hb4
                go_wp2_with fail
                go_roundw
                case rel => exact ⟨h + 1, h + 1, acc, D, d, by go_num, by go_num, by omega, by omega, by omega, rfl, Hcl, hown4, Hbx.out.gw hb4, hap, Gw.trans hgwi hb4⟩
                case measure => simp [intOf] <;> omega
            · rw [e1] at hre
              have hTt : Hid (freeT (tabOf W) S p h = true) := by
                unfold Hid
                rw [hfr.out, hfa.out.1 (by rw [e1]; omega)]
                rfl
              have Hre := Lib.hid hre
              clear hre e1
              have Hfr := Lib.hid (hIn.out.free hht hTt.out)
              go_wp2_with fail
              refine Hre.out.mono ?_
              rintro _ w4 ⟨rfl, hb4⟩
              have hown4 := own_gw hown hb4
              go_wp2_with fail
              go_roundw
              case rel => exact ⟨h + 1, g, acc, D, d, by go_num, by go_num, by omega, by omega, by omega, rfl, Hfr, hown4, Hbx.out.gw hb4, hap, Gw.trans hgwi hb4⟩
              case measure => simp [intOf] <;> omega
          · obtain rfl : h = t := by omega
            have Hcl := Lib.hid (hIn.out.last H0.out h1 h4)
            by_cases hgh : g < h
            · have hgz2 : (g : Int) < (h : Int) := by omega
              rw [if_pos hgh] at Hcl
              go_wp2_with (at_builtin; go_loud (refine wpList_push2 (α := W3) rfl (.tmp 50) (.tmp 56) 29 rfl w.heap.size 71 i0 _ 24 Try.underlying29 hi hz0 hz1 hz2 rfl (by omega) acc D d rfl wi ((p : Int), (g : Int), (h : Int)) rfl wi.heap.size rfl rfl hown (by omega) hgz ?_); intro acc' A' c'' w9 hacc' hl1 hl2' hown' hgr hblk hgg)
              go_roundw
              case rel => exact ⟨h + 1, h + 1, acc', A', c'', by go_num, by go_num, by omega, by omega, by omega, rfl, by unfold Hid; rw [hacc'.out]; exact Hcl.out, hown', Hbx.out.grown hgr hap.out, by unfold Hid; rcases hblk with e | e <;> rw [e]; (exact hap.out); (intro h; have := Option.some.inj h; omega), hgg _ hgwi (Nat.le_refl _)⟩
              case measure => simp [intOf] <;> omega
            · have hgz2 : ¬(g : Int) < (h : Int) := by omega
              rw [if_neg hgh] at Hcl
              go_wp2_with fail
              go_roundw
              case rel => exact ⟨h + 1, h + 1, acc, D, d, by go_num, by go_num, by omega, by omega, by omega, rfl, Hcl, hown, Hbx.out, hap, hgwi⟩
              case measure => simp [intOf] <;> omega
        · obtain rfl : h = t + 1 := by omega
          have Hd := Lib.hid (hIn.out.done (by omega))
          go_wp2_with fail
          go_roundw
          case rel => exact ⟨k + 1, acc, D, d, by go_num, by omega, rfl, by unfold Hid; rw [Hnx.out]; exact Hd.out, hown, hgwi⟩
          case measure => simp [intOf] <;> omega
    · obtain rfl : k = W.length := by omega
      have ha := hacc.out
      rw [fOut_end] at ha
      subst ha
      have HG := Lib.hid (wtab_good H0.out)
      have hlen := Lib.hid (wtab_len (freeT (tabOf W) S) 10)
      have hr5 := Lib.hid (own_rd hown)
      have hgz := hgw.size
      have hgd := s_wnGood D d (wtab (freeT (tabOf W) S) 10) wo (by have := hlen.out; omega) hr5.out
      have Hgd := Lib.hid hgd
      clear hgd
      go_wp2_with fail
      refine Hgd.out.mono ?_
      rintro _ w6 (⟨hgd, rfl, hb6⟩ | ⟨hgd, rfl, hb6⟩)
      · have hf : Hid (freeF W S = (wtab (freeT (tabOf W) S) 10, true)) := by
          unfold Hid
          rw [HF.out, winF_lt (HG.out.1 hgd)]
        clear hgd
        go_wp2_with fail
        go_ret2
        exact ⟨D, d, ret_lb hf.out, by rw [hf.out]; exact own_gw hown hb6, by (repeat (first | with_reducible exact Gw.refl _ | with_reducible assumption | ((with_reducible refine Gw.set ?_ ?_ _); rotate_left; (focus (first | (simp; done) | (simp; omega) | omega))) | with_reducible refine Gw.alloc ?_ _ | with_reducible refine Gw.drew ?_ | with_reducible refine Gw.drewN ?_ _ | (refine Gw.trans ?_ (by with_reducible assumption))))⟩
      · have hf : Hid (freeF W S = ([], false)) := by
          unfold Hid
          rw [HF.out, winF_ge (fun h => hgd (HG.out.2 h))]
        clear hgd
        go_wp2_with fail
        go_ret2
        exact ⟨none, 0, ret_lb (A := none) (c := 0) hf.out, by rw [hf.out]; exact World.ownsRow_nil _ _ _ _, by (repeat (first | with_reducible exact Gw.refl _ | with_reducible assumption | ((with_reducible refine Gw.set ?_ ?_ _); rotate_left; (focus (first | (simp; done) | (simp; omega) | omega))) | with_reducible refine Gw.alloc ?_ _ | with_reducible refine Gw.drew ?_ | with_reducible refine Gw.drewN ?_ _ | (refine Gw.trans ?_ (by with_reducible assumption))))⟩
end Go.Proofs.Ytipndibiioajmaa
