/-
  The reference's search for the best order: what is left behind its first test.
-/
import Derived.Test.YtipndibiioajmaaTryS
import Derived.Test.YtipndibiioajmaaBestI
import Derived.BigRegion
namespace Go.Proofs.Ytipndibiioajmaa
open Go.RowKit Go.ChangeShapes Go.WideShapes
set_option linter.unusedVariables false

theorem own_notbox {w : World} {base size n g : Nat} {e t : TypeId} {v : Value} {xs : List Value} {cs : Array Value} (h : w.ownsRow base e size v n xs) (hb : BoxR w g cs t) (hne : e ≠ t) : v.ownBlock ≠ some g := by
  intro hg
  rcases h.2 with ⟨rfl, _⟩ | ⟨g1, cap, cur, rfl, h1, h2, _⟩
  · simp [Value.ownBlock] at hg
  · simp [Value.ownBlock] at hg
    subst hg
    unfold BoxR at hb
    rw [hb] at h2
    simp at h2
    exact hne h2.2.symm
/-- The search's box. -/
def BestB (w : World) (g base : Nat) (mW mL : Value) (st : Option (List Int × Int)) : Prop :=
  ∃ (v : Value) (e : Int) (f : Bool), BoxR w g #[mW, mL, v, .int .i64 e, .bool f] 68 ∧
    ((st = none ∧ f = false) ∨ (∃ (o : List Int) (A : Option Addr) (c : Nat), st = some (o, e) ∧ f = true ∧ v = .slice A o.length c ∧ w.ownsRow base 3 1 (.slice A o.length c) o.length (flat o)))
theorem BestB.gw {w w' : World} {g base : Nat} {mW mL : Value} {st : Option (List Int × Int)} (h : BestB w g base mW mL st) (hg : Gw w w') : BestB w' g base mW mL st := by
  obtain ⟨v, e, f, hb, hs⟩ := h
  refine ⟨v, e, f, hb.gw hg, hs.imp id ?_⟩
  rintro ⟨o, A, c, h1, h2, h3, h4⟩
  exact ⟨o, A, c, h1, h2, h3, own_gw h4 hg⟩
theorem s_l1Has (A : Option Addr) (c n : Nat) (l : List Int) (x : Int) (w : World) (hn : l.length = n) (hl : n ≤ 1048576) (hA : Rd w A l) :
    Calls Try.prog 67 #[.slice A n c, .int .i64 x] w (Tells (x ∈ l) w) := by
  subst hn
  go_enter Try.func67, Try.ntmps67
  go_wp2
  go_loopw [9] (fun i wr => ∃ k : Nat, i = .int .i64 k ∧ k ≤ l.length ∧ Hid (x ∉ l.take k) ∧ Gw w wr) (fun i _ => l.length - (intOf i).toNat)
  case atStart => exact ⟨0, by go_num, Nat.zero_le _, by unfold Hid; simp, by (repeat (first | with_reducible exact Gw.refl _ | with_reducible assumption | ((with_reducible refine Gw.set ?_ ?_ _); rotate_left; (focus (first | (simp; done) | (simp; omega) | omega))) | with_reducible refine Gw.alloc ?_ _ | with_reducible refine Gw.drew ?_ | with_reducible refine Gw.drewN ?_ _ | (refine Gw.trans ?_ (by with_reducible assumption))))⟩
  case round =>
    obtain ⟨k, rfl, hk, hall, hgw⟩ := hrel
    by_cases hlt : k < l.length
    · obtain ⟨y, hy⟩ := get_of_lt hlt
      obtain ⟨b, off, rfl, hb, c0⟩ := (hA.gw hgw).get1 hy
      have Hy : Hid (l[k]? = some y) := hy
      have htk : Hid (l.take (k + 1) = l.take k ++ [y]) := by unfold Hid; rw [List.take_add_one, hy]; rfl
      clear hy
      by_cases e : y = x
      · have e1 : (y == x) = true := by simp [e]
        have hm : Hid (x ∈ l) := by unfold Hid; rw [← e]; exact mem_of_get Hy.out
        clear e
        go_wp2_with fail
        go_ret
        exact .inl ⟨hm.out, rfl, hgw⟩
      · have e1 : (y == x) = false := by simp [e]
        have hn : Hid (x ∉ l.take (k + 1)) := by
          unfold Hid
          rw [htk.out]
          simp only [List.mem_append, List.mem_singleton, not_or]
          exact ⟨hall.out, fun h => e h.symm⟩
        clear e
        go_wp2_with fail
        go_roundw
        case rel => exact ⟨k + 1, by go_num, by omega, hn, hgw⟩
        case measure => simp [intOf]; omega
    · have hn : Hid (x ∉ l) := by
        have := hall.out
        rw [List.take_of_length_le (by omega)] at this
        exact this
      go_wp2_with fail
      go_ret
      exact .inr ⟨hn.out, rfl, hgw⟩
theorem s_reEndN (A : Option Addr) (cap n : Nat) (l : List B4) (w : World) (hn : l.length = n) (hl : n ≤ 1048576) (hA : Rd w A l) :
    Calls Try.prog 63 #[.slice A n cap] w fun e w' => e = .returned (.int .i64 (endF l)) ∧ Gw w w' := by
  subst hn
  exact s_reEnd A cap l w hl hA
noncomputable def tryStep (W : List (Int × Int × Int)) (L : List (Int × Int)) (k : Nat) (o : List Int) (S : List B4) : Option (List Int × Int) → Int → Option (List Int × Int) :=
  fun st i => if i ∈ o then st else match firstB W S (L.getD i.toNat (0, 0)) with
      | some x => tryF W L k (o ++ [i]) (S ++ [x]) st
      | none => st
theorem tryF_stop {W : List (Int × Int × Int)} {L : List (Int × Int)} {k : Nat} {o : List Int} {S : List B4} {st : Option (List Int × Int)} (h : stops st S) : tryF W L k o S st = st := by unfold tryF; rw [if_pos h]
theorem tryF_zero {W : List (Int × Int × Int)} {L : List (Int × Int)} {o : List Int} {S : List B4} {st : Option (List Int × Int)} (h : ¬stops st S) : tryF W L 0 o S st = some (o, endF S) := by unfold tryF; rw [if_neg h]
theorem tryF_succ {W : List (Int × Int × Int)} {L : List (Int × Int)} {k : Nat} {o : List Int} {S : List B4} {st : Option (List Int × Int)} (h : ¬stops st S) : tryF W L (k + 1) o S st = (upN L.length).foldl (tryStep W L k o S) st := by
  rw [tryF, if_neg h]
  rfl
theorem upN_step {st : Option (List Int × Int)} {f : Option (List Int × Int) → Int → Option (List Int × Int)} (i : Nat) : (upN (i + 1)).foldl f st = f ((upN i).foldl f st) (i : Int) := by rw [upN_succ, List.foldl_append]; rfl

/-- Code behind n statements. -/
def tailC : Nat → Code → Code
  | 0, c => c
  | n + 1, .seq _ b => tailC n b
  | _ + 1, c => c
def TryP (A : Option Addr) (cA : Nat) (W : List (Int × Int × Int)) (B : Option Addr) (cB n : Nat) (L : List (Int × Int)) (w0 : World) (g : Nat) (k : Nat) : Prop :=
    ∀ (m : Nat) (o : List Int) (S : List B4) (st : Option (List Int × Int)) (w : World) (O : Option Addr) (c : Nat) (D : Option Addr) (d : Nat), m + k = n → o.length = m → S.length = m → BookP S →
      w.ownsRow w0.heap.size 3 1 (.slice O m c) m (flat o) → w.ownsRow w0.heap.size 88 4 (.slice D m d) m (flat S) → Gw w0 w → BestB w g w0.heap.size (.slice A W.length cA) (.slice B n cB) st →
      Calls Try.prog 40 #[.pointer (some ⟨g, 0, none⟩), .slice O m c, .slice D m d] w fun e w' => e = .returned (.tuple #[]) ∧ BestB w' g w0.heap.size (.slice A W.length cA) (.slice B n cB) (tryF W L k o S st) ∧ w.grownBy w' (some g)
theorem grow_gw {a b c : World} {r : Option Nat} (h : a.grownBy b r) (hg : Gw b c) : a.grownBy c r := grownBy_trans h (hg.by_ r)
theorem grow_set1 {a b : World} {g : Nat} (h : a.grownBy b (some g)) (j : Nat) (u : Value) : a.grownBy (b.setCell ⟨g, j, none⟩ u) (some g) :=
  grownBy_trans h ⟨rfl, rfl, rfl, by simp, fun k _ hk => Below.heap_setCell _ _ _ k (fun e => hk (by rw [e]))⟩
theorem own_box {w w' : World} {base size n g : Nat} {e t : TypeId} {v : Value} {xs : List Value} {cs : Array Value} (h : w.ownsRow base e size v n xs) (hb : BoxR w g cs t) (hne : e ≠ t) (hg : w.grownBy w' (some g)) : w'.ownsRow base e size v n xs :=
  h.kept hg (.inr (own_notbox h hb hne))
theorem gw_box {w0 w w' : World} {g : Nat} (h : Gw w0 w) (hg0 : w0.heap.size ≤ g) (hg : w.grownBy w' (some g)) : Gw w0 w' := h.grown hg (fun k hk => by cases hk; exact hg0)
theorem BestB.box {w : World} {g base : Nat} {mW mL : Value} {st : Option (List Int × Int)} (h : BestB w g base mW mL st) : ∃ cs, BoxR w g cs 68 ∧ w.cell? ⟨g, 0, none⟩ = some mW ∧ w.cell? ⟨g, 1, none⟩ = some mL := by
  obtain ⟨v, e, f, hb, _⟩ := h
  exact ⟨_, hb, hb.cell 0 rfl, hb.cell 1 rfl⟩

set_option maxHeartbeats 16000000 in
set_option maxRecDepth 100000 in
theorem try_tail (A : Option Addr) (cA : Nat) (W : List (Int × Int × Int)) (B : Option Addr) (cB n : Nat) (L : List (Int × Int)) (w0 : World) (g : Nat) (hlW : W.length ≤ 1048576) (HA : Hid (Rd w0 A W)) (HB : Hid (Rd w0 B L)) (Hn : Hid (L.length = n)) (h6 : n ≤ 6) (HW : Hid (WinsP W)) (HL : Hid (∀ r ∈ L, ReP r.1 r.2)) (hg : w0.heap.size ≤ g) (k : Nat) (IH : ∀ k', k = k' + 1 → TryP A cA W B cB n L w0 g k') {s3 s4 s5 s6 s7 s8 s9 s10 s11 s12 s13 s14 s15 s16 s17 s18 s19 s20 s21 s22 s23 s24 s25 s26 s27 s28 s29 s30 s31 s32 s33 s34 s35 s36 s37 s38 s39 s40 s41 s42 s43 s44 s45 s46 s47 s48 s49 s50 s51 s52 s53 s54 s55 s56 s57 s58 s59 s60 s61 s62 s63 s64 s65 s66 s67 s68 s69 s70 s71 s72 s73 s74 s75 s76 s77 s78 s79 s80 : Value}
    (m : Nat) (o : List Int) (S : List B4) (st : Option (List Int × Int)) (w w1 : World) (O : Option Addr) (c : Nat) (D : Option Addr) (d : Nat) (hmk : m + k = n) (Ho : Hid (o.length = m)) (HS : Hid (S.length = m)) (Hbk : Hid (BookP S))
    (hownO : w1.ownsRow w0.heap.size 3 1 (.slice O m c) m (flat o)) (hownD : w1.ownsRow w0.heap.size 88 4 (.slice D m d) m (flat S)) (hgw : Gw w0 w1) (hbest : BestB w1 g w0.heap.size (.slice A W.length cA) (.slice B n cB) st) (hns : Hid (¬stops st S)) (hww : Gw w w1) :
    Code.wp Try.prog (tailC 1 (Try.f40.body.getD .skip)) (bodyPost Try.prog Try.f40 (fun e w' => e = .returned (.tuple #[]) ∧ BestB w' g w0.heap.size (.slice A W.length cA) (.slice B n cB) (tryF W L k o S st) ∧ w.grownBy w' (some g))) ⟨#[.pointer (some ⟨g, 0, none⟩), .slice O m c, .slice D m d, s3, s4, s5, s6, s7, s8, s9, s10, s11, s12, s13, s14, s15, s16, s17, s18, s19, s20, s21, s22, s23, s24, s25, s26, s27, s28, s29, s30, s31, s32, s33, s34, s35, s36, s37, s38, s39, s40, s41, s42, s43, s44, s45, s46, s47, s48, s49, s50, s51, s52, s53, s54, s55, s56, s57, s58, s59, s60, s61, s62, s63, s64, s65, s66, s67, s68, s69, s70, s71, s72, s73, s74, s75, s76, s77, s78, s79, s80], []⟩ w1 := by
  conv => arg 2; whnf
  conv => arg 4; zeta
  have hend := endF_bd Hbk.out
  cases k with
  | zero =>
    obtain rfl : m = n := by omega
    obtain ⟨v, e, f, hbox, hst⟩ := hbest
    have hgl := hbox.lt
    have c1 := hbox.cell 1 rfl
    have y2 := hbox.free 2
    have c2 := hbox.cell 2 rfl
    have e1 : ((m : Int) == (m : Int)) = true := by simp
    have hb2 := Lib.hid (hbox.set 2 (.slice O m c))
    have hgr2 := grow_set1 (World.grownBy.refl w1 (some g)) 2 (.slice O m c)
    have hO2 := Lib.hid (own_box hownO hbox (by decide) hgr2)
    have hD2 := Lib.hid (own_box hownD hbox (by decide) hgr2)
    have Hgr2 := Lib.hid hgr2
    clear hbox hgr2 hownO hownD hmk IH
    go_wp2_with fail
    refine (s_reEndN _ _ _ S _ HS.out (by omega) (own_rd (by rw [HS.out]; exact hD2.out))).mono ?_
    rintro _ w3 ⟨rfl, hb3⟩
    have bx3 := hb2.out.gw hb3
    have z3 := bx3.cell 3 rfl
    have x3 := bx3.free 3
    have hq3 := bx3.set 3 (.int .i64 (endF S))
    have z4 := hq3.cell 4 rfl
    have x4 := hq3.free 4
    have hq4 := Lib.hid (hq3.set 4 (.bool true))
    have hgr4 := Lib.hid (grow_set1 (grow_set1 (World.grownBy.refl w3 (some g)) 3 (.int .i64 (endF S))) 4 (.bool true))
    have hO4 := Lib.hid (own_box (own_gw hO2.out hb3) bx3 (by decide) hgr4.out)
    clear bx3 hq3
    go_wp2_with fail
    ((try simp only [Exit.inBlock, Exit.then]); refine bodyPost_ret (v := .tuple #[]) (by simp [results, Try.results40, go_sem]) rfl ?_)
    exact ⟨rfl, ⟨.slice O m c, endF S, true, hq4.out, .inr ⟨o, O, c, tryF_zero hns.out, rfl, by rw [Ho.out], by rw [Ho.out]; exact hO4.out⟩⟩, grownBy_trans (grow_gw (hww.by_ _) (Gw.refl _)) (grownBy_trans Hgr2.out (grownBy_trans (hb3.by_ _) hgr4.out))⟩
  | succ k =>
    have hmn : m < n := by omega
    have hne : ¬(m = n) := by omega
    have e1 : ((m : Int) == (n : Int)) = false := by simp; omega
    have e2 : decide ((m : Int) = (n : Int)) = false := by simp; omega
    have IH := Lib.hid (IH k rfl)
    obtain ⟨cs, hbox, c0, c1⟩ := hbest.box
    have Hbox := Lib.hid hbox
    have hgl := hbox.lt
    have Hmk := Lib.hid hmk
    have hO := Lib.hid hownO
    have hD := Lib.hid hownD
    clear hbox hownO hownD hmk hne
    go_wp2_with fail
    go_loopw [48] (fun q wr => ∃ (i : Nat) (st' : Option (List Int × Int)), q = .int .i64 i ∧ i ≤ n ∧ Hid (st' = (upN i).foldl (tryStep W L k o S) st) ∧ BestB wr g w0.heap.size (.slice A W.length cA) (.slice B n cB) st' ∧ w1.grownBy wr (some g)) (fun q _ => n - (intOf q).toNat)
    case atStart => exact ⟨0, st, by go_num, Nat.zero_le _, rfl, hbest, World.grownBy.refl _ _⟩
    case round =>
      obtain ⟨wo, rfl⟩ : ∃ wo : World, wo = wr := ⟨_, rfl⟩
      obtain ⟨i, st', rfl, hin, hst', hb, hgr⟩ := hrel
      have Hgr := Lib.hid hgr
      have hgwo := gw_box hgw hg hgr
      have hgz := hgr.size
      clear hgr
      by_cases hlt : i < n
      · obtain ⟨r, hr⟩ := get_of_lt (l := L) (k := i) (by rw [Hn.out]; exact hlt)
        obtain ⟨b, off, rfl, hb', d0, d1⟩ := (HB.out.gw hgwo).get2 hr
        have hre := HL.out r (mem_of_get hr)
        have hgd : L.getD ((i : Nat) : Int).toNat (0, 0) = r := by
          rw [Int.toNat_natCast, List.getD_eq_getElem?_getD, hr]
          rfl
        have Hgd := Lib.hid hgd
        clear hr hgd
        obtain ⟨r1, r2⟩ := r
        dsimp only at d0 d1 hre
        have HRe := Lib.hid hre
        clear hre
        obtain ⟨cs2, hbx2, q0, q1⟩ := hb.box
        have Hbx2 := Lib.hid hbx2
        have hgl2 := hbx2.lt
        have hOo := Lib.hid (own_box hO.out Hbox.out (by decide) Hgr.out)
        have hDo := Lib.hid (own_box hD.out Hbox.out (by decide) Hgr.out)
        have hrO : Hid (Rd wo O o) := own_rd (by rw [Ho.out]; exact hOo.out)
        have hrD : Hid (Rd wo D S) := own_rd (by rw [HS.out]; exact hDo.out)
        clear hbx2
        have hal : Gw wo (wo.alloc (.cells #[.int .i64 r1, .int .i64 r2] 59)) := (Gw.refl wo).alloc _
        have bxr := BoxR.new wo #[.int .i64 r1, .int .i64 r2] 59
        have Hal := Lib.hid hal
        have Hbxr := Lib.hid bxr
        clear hal bxr
        go_wp2_with fail
        refine (s_l1Has _ _ _ o _ _ Ho.out (by omega) (hrO.out.gw Hal.out)).mono ?_
        rintro _ w2 (⟨hp, rfl, hb2⟩ | ⟨hp, rfl, hb2⟩)
        · have hst2 : Hid (st' = (upN (i + 1)).foldl (tryStep W L k o S) st) := by
            unfold Hid
            rw [upN_step, ← hst'.out]
            unfold tryStep
            rw [if_pos hp]
          clear hp
          have hg2 := Hal.out.trans hb2
          go_wp2_with fail
          go_roundw
          case rel => exact ⟨i + 1, st', by go_num, by omega, hst2, hb.gw hg2, grow_gw Hgr.out hg2⟩
          case measure => simp [intOf]; omega
        · have Hp := Lib.hid hp
          clear hp
          have hg2 := Hal.out.trans hb2
          have bxr2 := Hbxr.out.gw hb2
          have hq0 : w2.cell? ⟨g, 0, none⟩ = some (.slice A W.length cA) := (hg2.cells g 0 hgl2).trans q0
          have hgl3 : g < w2.heap.size := Nat.lt_of_lt_of_le hgl2 hg2.size
          have hC : ∀ w3, Gw w2 w3 → Calls Try.prog 68 #[.slice A W.length cA, .slice D m d, .agg #[.int .i64 r1, .int .i64 r2]] w3 fun e w' => e = retB (firstV W S (r1, r2)).1 (firstV W S (r1, r2)).2 ∧ Gw w3 w' := fun w3 h3 =>
            s_reFirst A cA W D d m S r1 r2 w3 hlW (HA.out.gw ((hgwo.trans hg2).trans h3)) HS.out (by omega) (hrD.out.gw (hg2.trans h3)) HW.out Hbk.out HRe.out
          have HC := Lib.hid hC
          clear hC
          go_wp2_with fail
          refine try_region9 g A cA W.length D d m _ r1 r2 (firstV W S (r1, r2)).1 (firstV W S (r1, r2)).2 w2 hq0 hgl3 bxr2 HC.out ?_
          intro t0 t1 t2 t3 t4 t5 t6 t7 t8 t9 h w3 hb3 hh bxx
          have hg3 := hg2.trans hb3
          have Hbxx := Lib.hid bxx
          clear bxx bxr2 HC Hbxr Hal hb2
          cases hfb : firstB W S (r1, r2) with
          | none =>
            have hfv : (firstV W S (r1, r2)).2 = false := by rw [firstV_none hfb]
            have hst2 : Hid (st' = (upN (i + 1)).foldl (tryStep W L k o S) st) := by
              unfold Hid
              rw [upN_step, ← hst'.out]
              unfold tryStep
              rw [if_neg Hp.out, Hgd.out, hfb]
            rw [hfv]
            clear hfb hfv
            go_wp2_with fail
            go_roundw
            case rel => exact ⟨i + 1, st', by go_num, by omega, hst2, hb.gw hg3, grow_gw Hgr.out hg3⟩
            case measure => simp [intOf]; omega
          | some x =>
            have hfv : (firstV W S (r1, r2)).2 = true := by rw [firstV_some hfb]
            have hfx : (firstV W S (r1, r2)).1 = x := by rw [firstV_some hfb]
            have hbk2 := Lib.hid (firstB_book HW.out HRe.out Hbk.out (by rw [HS.out]; omega) hfb)
            have hst2 : Hid (tryF W L k (o ++ [(i : Int)]) (S ++ [x]) st' = (upN (i + 1)).foldl (tryStep W L k o S) st) := by
              unfold Hid
              rw [upN_step, ← hst'.out]
              unfold tryStep
              rw [if_neg Hp.out, Hgd.out, hfb]
            rw [hfv]
            rw [hfx] at Hbxx
            clear hfb hfv hfx
            have hwo : w0.heap.size ≤ w3.heap.size := by have := hg3.size; have := hgwo.size; omega
            have hgw3 := hgwo.trans hg3
            have hb3' := hb.gw hg3
            go_wp2_with fail
            refine try_region g O c m o D d m S (i : Int) h x w3 Ho.out (hrO.out.gw hg3) HS.out (hrD.out.gw hg3) Hbxx.out (by omega) (by omega) (fun w' => BestB w' g w0.heap.size (.slice A W.length cA) (.slice (some ⟨b, off, none⟩) n cB) (tryF W L k (o ++ [(i : Int)]) (S ++ [x]) st') ∧ w3.grownBy w' (some g)) ?_ ?_
            · intro w4 A4 c4 A5 c5 hg4 hown4 hown5
              refine (IH.out (m + 1) (o ++ [(i : Int)]) (S ++ [x]) st' w4 A4 c4 A5 c5 (by have := Hmk.out; omega) (by rw [List.length_append, Ho.out]; rfl) (by rw [List.length_append, HS.out]; rfl) hbk2.out (own_lower hown4 hwo) (own_lower hown5 hwo) (hgw3.trans hg4) (hb3'.gw hg4)).mono ?_
              rintro e w5 ⟨rfl, h5, h6⟩
              exact ⟨rfl, h5, grownBy_trans (hg4.by_ _) h6⟩
            · intro t10 t11 t12 t13 t14 t15 t16 t17 t18 t19 t20 t21 t22 w5 hP
              have HP := Lib.hid hP
              clear hP
              go_wp2_with fail
              go_roundw
              case rel => exact ⟨i + 1, _, by go_num, by omega, hst2, HP.out.1, grownBy_trans (grow_gw Hgr.out hg3) HP.out.2⟩
              case measure => simp [intOf]; omega
      · obtain rfl : i = n := by omega
        have hfin : Hid (st' = tryF W L (k + 1) o S st) := by
          unfold Hid
          rw [tryF_succ hns.out, Hn.out]
          exact hst'.out
        go_wp2_with fail
        ((try simp only [Exit.inBlock, Exit.then]); refine bodyPost_end (v := .tuple #[]) (by simp [results, Try.results40, go_sem]) rfl ?_)
        exact ⟨rfl, by rw [← hfin.out]; exact hb, grownBy_trans (hww.by_ _) Hgr.out⟩
end Go.Proofs.Ytipndibiioajmaa
