/-
  The best order: the program's way.
-/
import Derived.Test.YtipndibiioajmaaOrd
import Derived.Test.YtipndibiioajmaaEarlB
import Derived.Lib.SliceRun
namespace Go.Proofs.Ytipndibiioajmaa
open Go.RowKit

noncomputable def bestOF (W : List (Int × Int × Int)) (L : List (Int × Int)) : List Int × Int × Bool :=
  open Classical in if WinsP W ∧ RehP L then (match bestF W L with | some x => (x.1, x.2, true) | none => ([], 0, false)) else ([], 0, false)
theorem bestOF_bad {W : List (Int × Int × Int)} {L : List (Int × Int)} (h : ¬(WinsP W ∧ RehP L)) : bestOF W L = ([], 0, false) := by unfold bestOF; rw [if_neg h]
theorem bestOF_some {W : List (Int × Int × Int)} {L : List (Int × Int)} {o : List Int} {e : Int} (h : WinsP W ∧ RehP L) (hb : bestF W L = some (o, e)) : bestOF W L = (o, e, true) := by unfold bestOF; rw [if_pos h, hb]
theorem bestOF_none {W : List (Int × Int × Int)} {L : List (Int × Int)} (h : WinsP W ∧ RehP L) (hb : bestF W L = none) : bestOF W L = ([], 0, false) := by unfold bestOF; rw [if_pos h, hb]
theorem ret_oeb {A : Option Addr} {c : Nat} {f : List Int × Int × Bool} {l : List Int} {e : Int} {b : Bool} (h : f = (l, e, b)) : Ending.returned (.tuple #[.slice A l.length c, .int .i64 e, .bool b]) = .returned (.tuple #[.slice A f.1.length c, .int .i64 f.2.1, .bool f.2.2]) := by rw [h]
theorem endF_bd {S : List B4} (h : BookP S) : 0 ≤ endF S ∧ endF S ≤ 168 := by
  have : ∀ (l : List B4) (m : Int), (∀ x ∈ l, x.2.2.2 ≤ 168) → 0 ≤ m ∧ m ≤ 168 → 0 ≤ l.foldl (fun m x => max m x.2.2.2) m ∧ l.foldl (fun m x => max m x.2.2.2) m ≤ 168 := by
    intro l
    induction l with
    | nil => intro m _ h; exact h
    | cons y l ih =>
      intro m hx h
      rw [List.foldl_cons]
      have hy := hx y (by simp)
      exact ih _ (fun z hz => hx z (by simp [hz])) (by omega)
  refine this S 0 (fun x hx => ?_) (by omega)
  have := h.1 x hx
  exact this.2.2.2.2
theorem ordsF_lens {n k : Nat} {b r : List Int} (h : r ∈ ordsF n k b) : r.length = b.length + k := by
  obtain ⟨t, rfl, ht⟩ := ordsF_ext h
  rw [List.length_append, ht]
/-- The best so far, as two slots hold it. -/
def BestV (w : World) (base : Nat) (st : Option (List Int × Int)) (v : Value) (e : Int) : Prop :=
  (st = none ∧ v = .slice none 0 0 ∧ e = 169) ∨ (∃ o g c, st = some (o, e) ∧ 0 ≤ e ∧ e ≤ 168 ∧ v = .slice (some ⟨g, 0, none⟩) o.length c ∧ w.ownsRow base 3 1 (.slice (some ⟨g, 0, none⟩) o.length c) o.length (flat o))
theorem BestV.gw {w w' : World} {base : Nat} {st : Option (List Int × Int)} {v : Value} {e : Int} (h : BestV w base st v e) (hg : Gw w w') : BestV w' base st v e := by
  rcases h with h | ⟨o, g, c, h1, h2, h3, h4, h5⟩
  · exact .inl h
  · exact .inr ⟨o, g, c, h1, h2, h3, h4, own_gw h5 hg⟩
theorem BestV.bd {w : World} {base : Nat} {st : Option (List Int × Int)} {v : Value} {e : Int} (h : BestV w base st v e) : 0 ≤ e ∧ e ≤ 169 := by
  rcases h with ⟨_, _, h⟩ | ⟨o, g, c, h1, h2, h3, h4, h5⟩ <;> omega
theorem step_stay {W : List (Int × Int × Int)} {L : List (Int × Int)} {st : Option (List Int × Int)} {o : List Int} (h : schedGo W [] (pickR L o) = none) : bestStep W L st o = st := by unfold bestStep; rw [h]
theorem BestV.no {W : List (Int × Int × Int)} {L : List (Int × Int)} {w : World} {base : Nat} {st : Option (List Int × Int)} {v : Value} {e : Int} {o : List Int} {S : List B4} (h : BestV w base st v e) (hs : schedGo W [] (pickR L o) = some S) (hb : endF S ≤ 168) (hn : ¬endF S < e) : bestStep W L st o = st := by
  unfold bestStep
  rw [hs]
  rcases h with ⟨rfl, _, h⟩ | ⟨o', g, c, rfl, h2, h3, h4, h5⟩
  · omega
  · show (if endF S < e then _ else _) = _
    rw [if_neg hn]
theorem BestV.yes {W : List (Int × Int × Int)} {L : List (Int × Int)} {w : World} {base : Nat} {st : Option (List Int × Int)} {v : Value} {e : Int} {o : List Int} {S : List B4} (h : BestV w base st v e) (hs : schedGo W [] (pickR L o) = some S) (hn : endF S < e) : bestStep W L st o = some (o, endF S) := by
  unfold bestStep
  rw [hs]
  rcases h with ⟨rfl, _, h⟩ | ⟨o', g, c, rfl, h2, h3, h4, h5⟩
  · rfl
  · show (if endF S < e then _ else _) = _
    rw [if_pos hn]
theorem bestF_len {W : List (Int × Int × Int)} {L : List (Int × Int)} {o : List Int} {e : Int} (h : bestF W L = some (o, e)) : o.length = L.length := by
  have key : ∀ (os : List (List Int)) (st : Option (List Int × Int)), (∀ o ∈ os, o.length = L.length) → (∀ o e, st = some (o, e) → o.length = L.length) → ∀ o e, os.foldl (bestStep W L) st = some (o, e) → o.length = L.length := by
    intro os
    induction os with
    | nil => intro st _ h2 o e h; exact h2 o e h
    | cons q os ih =>
      intro st h1 h2 o e h
      rw [List.foldl_cons] at h
      refine ih _ (fun x hx => h1 x (by simp [hx])) (fun o' e' h' => ?_) o e h
      unfold bestStep at h'
      split at h'
      · exact h2 o' e' h'
      · split at h'
        · simp only [Option.some.injEq, Prod.mk.injEq] at h'
          rw [← h'.1]
          exact h1 q (by simp)
        · split at h'
          · simp only [Option.some.injEq, Prod.mk.injEq] at h'
            rw [← h'.1]
            exact h1 q (by simp)
          · exact h2 o' e' h'
  refine key _ none (fun o ho => ?_) (fun o e h => by cases h) o e h
  have := ordsF_lens ho
  simpa using this
theorem bestOF_len (W : List (Int × Int × Int)) (L : List (Int × Int)) : (bestOF W L).1.length ≤ 1048576 := by
  by_cases hp : WinsP W ∧ RehP L
  · cases hb : bestF W L with
    | none => rw [bestOF_none hp hb]; simp
    | some x =>
      obtain ⟨o, e⟩ := x
      rw [bestOF_some hp hb]
      have := bestF_len hb
      have := hp.2.2
      dsimp only
      omega
  · rw [bestOF_bad hp]; simp
theorem foldl_take {α β : Type} {f : β → α → β} {l : List α} {s : β} {k : Nat} {x : α} (h : l[k]? = some x) : (l.take (k + 1)).foldl f s = f ((l.take k).foldl f s) x := by
  rw [List.take_add_one, h, List.foldl_append]
  rfl
theorem pickR_take {L : List (Int × Int)} {r : List Int} {j : Nat} {x : Int} (h : r[j]? = some x) : pickR L (r.take (j + 1)) = pickR L (r.take j) ++ [L.getD x.toNat (0, 0)] := by
  rw [List.take_add_one, h]
  exact pickR_snoc L (r.take j) x

set_option maxHeartbeats 8000000 in
set_option maxRecDepth 100000 in
theorem i_BestOrder (A : Option Addr) (cA : Nat) (W : List (Int × Int × Int)) (B : Option Addr) (cB : Nat) (L : List (Int × Int)) (w : World) (hlW : W.length ≤ 1048576) (hA : Rd w A W) (_hcA : W.length ≤ cA) (hlL : L.length ≤ 1048576) (hB : Rd w B L) (_hcB : L.length ≤ cB) :
    Calls Try.prog 10 #[.slice A W.length cA, .slice B L.length cB] w fun e w' => ∃ A c, e = .returned (.tuple #[.slice A (bestOF W L).1.length c, .int .i64 (bestOF W L).2.1, .bool (bestOF W L).2.2]) ∧
      w'.ownsRow w.heap.size 3 1 (.slice A (bestOF W L).1.length c) (bestOF W L).1.length (flat (bestOF W L).1) ∧ Gw w w' := by
  obtain ⟨i0, hi, hz0, hz1, hz2⟩ := info_parts infoRehearsal
  have HA := Lib.hid hA
  have HB := Lib.hid hB
  have qN : ∀ (w : World) (a : Option Addr) (n c : Nat), (binOp .eql 26 (.slice a n c) (.slice none 0 0)).run Try.prog w = .ok (.bool a.isNone) w := fun w a n c => Lib.run_eql_slice_nil w _ _ a n c _ _ Try.underlying26
  go_enter Try.func10, Try.ntmps10
  go_wp2_with fail
  refine (i_AreWindows _ _ _ _ hlW hA).mono ?_
  rintro _ w1 (⟨hp, rfl, hb1⟩ | ⟨hp, rfl, hb1⟩)
  case inr =>
    have hno := Lib.hid (bestOF_bad (W := W) (L := L) (fun h => hp h.1))
    clear hp
    go_wp2_with fail
    go_ret3
    exact ⟨none, 0, ret_oeb (l := []) hno.out, by rw [hno.out]; exact World.ownsRow_nil _ _ _ _, hb1⟩
  have HW := Lib.hid hp
  clear hp
  go_wp2_with fail
  refine (i_AreRehearsals _ _ _ _ hlL (hB.gw hb1)).mono ?_
  rintro _ w2 (⟨hp, rfl, hb2⟩ | ⟨hp, rfl, hb2⟩)
  case inr =>
    have hno := Lib.hid (bestOF_bad (W := W) (L := L) (fun h => hp h.2))
    clear hp
    go_wp2_with fail
    go_ret3
    exact ⟨none, 0, ret_oeb (l := []) hno.out, by rw [hno.out]; exact World.ownsRow_nil _ _ _ _, hb1.trans hb2⟩
  have HP := Lib.hid hp
  have h6 := hp.2
  clear hp hA hB
  have hG2 := Gw.trans hb1 hb2
  have hG2z := hG2.size
  obtain ⟨n, hn⟩ : ∃ n, L.length = n := ⟨_, rfl⟩
  have Hn := Lib.hid hn
  rw [hn] at hlL h6 ⊢
  clear hn
  have hO := i_ordersOf n n 0 [] w2.heap.size 0 w2.heap.size (w2.alloc (.cells #[] 3)) rfl (by omega) h6 (World.ownsRow_made w2 #[] 0 (Nat.le_refl _) (by simp [maxLen]) (by simp)) (by simp)
  have HO := Lib.hid hO
  clear hO
  go_wp2_with fail
  refine HO.out.mono ?_
  rintro _ w3 ⟨C, N, cN, sv, rfl, hout, hb3⟩
  clear HO
  have hN : N ≤ 46656 := by
    have := Nat.le_trans (ordsF_bd h6 n []) (pow6 h6)
    rw [← hout.len, hout.num] at this
    exact this
  have hNl : Hid ((ordsF n n []).length = N) := by unfold Hid; rw [← hout.len, hout.num]
  have hG3 : Gw w w3 := by (repeat (first | with_reducible exact Gw.refl _ | with_reducible assumption | ((with_reducible refine Gw.set ?_ ?_ _); rotate_left; (focus (first | (simp; done) | (simp; omega) | omega))) | with_reducible refine Gw.alloc ?_ _ | with_reducible refine Gw.drew ?_ | with_reducible refine Gw.drewN ?_ _ | (refine Gw.trans ?_ (by with_reducible assumption))))
  have hG3z := hG3.size
  go_wp2_with fail
  go_loopw [7, 8, 29] (fun bv lv q wr => ∃ (k : Nat) (e : Int), q = .int .i64 k ∧ k ≤ N ∧ lv = .int .i64 e ∧ BestV wr w.heap.size (((ordsF n n []).take k).foldl (bestStep W L) none) bv e ∧ Gw w3 wr) (fun _ _ q _ => N - (intOf q).toNat)
  case atStart => exact ⟨0, 169, by go_num, Nat.zero_le _, rfl, .inl ⟨rfl, rfl, rfl⟩, Gw.refl _⟩
  case round =>
    obtain ⟨wo, rfl⟩ : ∃ wo : World, wo = wr := ⟨_, rfl⟩
    obtain ⟨k, e, rfl, hk, rfl, hbest, hg⟩ := hrel
    by_cases hlt : k < N
    · obtain ⟨r, hr⟩ := get_of_lt (l := ordsF n n []) (k := k) (by rw [hNl.out]; exact hlt)
      obtain ⟨b, off, g, d, rfl, hbl, c0, hro⟩ := (hout.gw hg).at hr
      have hrm := mem_of_get hr
      have hrl : r.length = n := by have := ordsF_lens hrm; simpa using this
      have Hrl := Lib.hid hrl
      have Hin := Lib.hid (ordsF_in (n := n) (by simp) hrm)
      have Hr := Lib.hid hr
      rw [hrl] at c0 hro
      clear hr hrm hrl
      have hrd : Rd wo (some ⟨g, 0, none⟩) r := own_rd (by rw [Hrl.out]; exact hro)
      go_wp2_with fail
      go_loopw [11, 36] (fun o q wr => ∃ (j : Nat) (D : Option Addr) (d : Nat) (acc : List (Int × Int)), q = .int .i64 j ∧ j ≤ n ∧ o = .slice D acc.length d ∧ acc.length ≤ j ∧ Hid (acc = pickR L (r.take j)) ∧ wr.ownsRow wo.heap.size 59 2 (.slice D acc.length d) acc.length (flat acc) ∧ Gw wo wr) (fun _ q _ => n - (intOf q).toNat)
      case atStart => exact ⟨0, some ⟨wo.heap.size, 0, none⟩, 0, [], by go_num, Nat.zero_le _, rfl, by simp, rfl, World.ownsRow_made wo #[] 0 (Nat.le_refl _) (by simp [maxLen]) (by simp), (Gw.refl _).alloc _⟩
      case round =>
        obtain ⟨j, D, dd, acc, rfl, hj, rfl, hal, hacc, hown, hg2⟩ := hrel
        have hgz2 := hg2.size
        by_cases hjn : j < n
        · obtain ⟨x, hx⟩ := get_of_lt (l := r) (k := j) (by rw [Hrl.out]; exact hjn)
          have hxb := Hin.out x (mem_of_get hx)
          obtain ⟨q, rfl⟩ : ∃ q : Nat, x = q := ⟨x.toNat, by omega⟩
          have hqn : q < n := by omega
          have hpk := Lib.hid (pickR_take (L := L) hx)
          obtain ⟨b1, off1, hae, hb1', e0⟩ := (hrd.gw hg2).get1 hx
          simp only [Option.some.injEq, Addr.mk.injEq, and_true] at hae
          obtain ⟨rfl, rfl⟩ := hae
          rw [Nat.zero_add] at e0
          obtain ⟨y, hy⟩ := get_of_lt (l := L) (k := q) (by rw [Hn.out]; exact hqn)
          obtain ⟨b2', off2, rfl, hb2', f0, f1⟩ := (HB.out.gw ((hG3.trans hg).trans hg2)).get2 hy
          have hyd : L.getD ((q : Nat) : Int).toNat (0, 0) = y := by
            rw [Int.toNat_natCast, List.getD_eq_getElem?_getD, hy]
            rfl
          have hpk2 : Hid (pickR L (r.take (j + 1)) = pickR L (r.take j) ++ [y]) := by unfold Hid; rw [hpk.out, hyd]
          clear hx hy hyd hpk hxb
          obtain ⟨y1, y2⟩ := y
          dsimp only at f0 f1
          go_wp2_with (at_builtin; go_loud (refine wpList_push (α := Int × Int) rfl (.tmp 40) (.tmp 45) 31 rfl wo.heap.size 59 i0 _ 16 Try.underlying31 hi hz0 hz1 hz2 rfl (by omega) acc D dd rfl wr (y1, y2) rfl _ rfl rfl hown (by omega) hgz2 ?_); intro acc' A' c'' w9 hacc' hl1 hl2 hown' _ hgg)
          go_roundw
          case rel => exact ⟨j + 1, A', c'', acc', by go_num, by omega, rfl, by omega, by unfold Hid; rw [hacc'.out, hpk2.out, hacc.out], hown', hgg wo hg2 (Nat.le_refl _)⟩
          case measure => simp [intOf]; omega
        · have hpa : Hid (acc = pickR L r) := by unfold Hid; rw [hacc.out, List.take_of_length_le (by rw [Hrl.out]; omega)]
          have hpl : acc.length = n := by rw [hpa.out, pickR_len, Hrl.out]
          have Hpl := Lib.hid hpl
          have hre : Hid (∀ r' ∈ acc, ReP r'.1 r'.2) := by
            unfold Hid
            rw [hpa.out]
            intro r' hr'
            obtain ⟨i, hi', rfl⟩ := List.mem_map.1 hr'
            have hib := Hin.out i hi'
            obtain ⟨y, hy⟩ := get_of_lt (l := L) (k := i.toNat) (by rw [Hn.out]; omega)
            rw [List.getD_eq_getElem?_getD, hy]
            exact HP.out.1 y (mem_of_get hy)
          rw [hpl] at hown ⊢
          clear hpl
          have hG4 := (hG3.trans hg).trans hg2
          have hrda : Rd wr D acc := own_rd (by rw [Hpl.out]; exact hown)
          have hF := i_firstSchedule A cA W D dd n acc wr hlW (HA.out.gw hG4) Hpl.out (by omega) hrda HW.out hre.out
          cases hS : schedGo W [] acc with
          | none =>
            rw [goF_none hS] at hF
            have HF := Lib.hid hF
            have hst : Hid (((ordsF n n []).take (k + 1)).foldl (bestStep W L) none = ((ordsF n n []).take k).foldl (bestStep W L) none) := by
              unfold Hid
              rw [foldl_take Hr.out, step_stay (by rw [← hpa.out]; exact hS)]
            clear hF hS
            go_wp2_with fail
            refine HF.out.mono ?_
            rintro _ w5 ⟨A5, c5, rfl, -, hb5⟩
            have hgo := hg2.trans hb5
            dsimp only
            go_wp2_with fail
            go_roundw
            case rel => exact ⟨k + 1, e, by go_num, by omega, rfl, by rw [hst.out]; exact hbest.gw hgo, hg.trans hgo⟩
            case measure => simp [intOf]; omega
          | some S =>
            rw [goF_some hS] at hF
            have HF := Lib.hid hF
            have HS : Hid (schedGo W [] (pickR L r) = some S) := by unfold Hid; rw [← hpa.out]; exact hS
            have hbk := (schedGo_book HW.out acc [] S hre.out bookP_nil (by rw [Hpl.out]; simp; omega) hS).1
            have hbd := endF_bd hbk
            have hSl : S.length ≤ 6 := hbk.2.2
            have hbe := hbest.bd
            clear hF hS hbk
            go_wp2_with fail
            refine HF.out.mono ?_
            rintro _ w5 ⟨A5, c5, rfl, hown5, hb5⟩
            have hgo := hg2.trans hb5
            have rd5 := own_rd (α := B4) hown5
            dsimp only
            go_wp2_with fail
            refine (i_scheduleEnd _ _ S _ (by omega) rd5).mono ?_
            rintro _ w6 ⟨rfl, hb6⟩
            have hgo6 := hgo.trans hb6
            have rd6 := rd5.gw hb6
            by_cases hle : endF S < e
            · have hst : Hid (((ordsF n n []).take (k + 1)).foldl (bestStep W L) none = some (r, endF S)) := by
                unfold Hid
                rw [foldl_take Hr.out, hbest.yes HS.out hle]
              have e1 : decide (endF S < e) = true := by simp [hle]
              go_wp2_with fail
              refine (i_scheduleEnd _ _ S _ (by omega) rd6).mono ?_
              rintro _ w7 ⟨rfl, hb7⟩
              have hgo7 := hgo6.trans hb7
              have hro7 := own_gw hro hgo7
              go_wp2_with fail
              go_roundw
              case rel => exact ⟨k + 1, endF S, by go_num, by omega, rfl, by rw [hst.out]; exact .inr ⟨r, g, d, rfl, hbd.1, hbd.2, by rw [Hrl.out], by rw [Hrl.out]; exact own_lower hro7 (by have := hg2.size; omega)⟩, hg.trans hgo7⟩
              case measure => simp [intOf]; omega
            · have hst : Hid (((ordsF n n []).take (k + 1)).foldl (bestStep W L) none = ((ordsF n n []).take k).foldl (bestStep W L) none) := by
                unfold Hid
                rw [foldl_take Hr.out, hbest.no HS.out hbd.2 hle]
              have e1 : decide (endF S < e) = false := by simp [hle]
              go_wp2_with fail
              go_roundw
              case rel => exact ⟨k + 1, e, by go_num, by omega, rfl, by rw [hst.out]; exact hbest.gw hgo6, hg.trans hgo6⟩
              case measure => simp [intOf]; omega
    · have hfull : Hid (((ordsF n n []).take k).foldl (bestStep W L) none = bestF W L) := by
        unfold Hid bestF
        rw [List.take_of_length_le (by rw [hNl.out]; omega), Hn.out]
      rw [hfull.out] at hbest
      have hGr := hG3.trans hg
      rcases hbest with ⟨h1, rfl, rfl⟩ | ⟨o, g, c, h1, h2, h3, rfl, h5⟩
      · have hfin := Lib.hid (bestOF_none ⟨HW.out, HP.out⟩ h1)
        clear h1
        go_wp2_with fail
        go_ret3
        exact ⟨none, 0, ret_oeb (l := []) hfin.out, by rw [hfin.out]; exact World.ownsRow_nil _ _ _ _, hGr⟩
      · have hfin := Lib.hid (bestOF_some ⟨HW.out, HP.out⟩ h1)
        clear h1
        go_wp2_with fail
        go_ret3
        exact ⟨some ⟨g, 0, none⟩, c, ret_oeb hfin.out, by rw [hfin.out]; exact h5, hGr⟩
end Go.Proofs.Ytipndibiioajmaa
