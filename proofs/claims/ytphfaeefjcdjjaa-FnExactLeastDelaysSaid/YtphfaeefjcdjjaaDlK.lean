/-
  The program's search for delays.
-/
import Derived.Test.YtphfaeefjcdjjaaDlJ
namespace Go.Proofs.Ytphfaeefjcdjjaa
open Go.RowKit Go.ChangeShapes Go.WideShapes
set_option linter.unusedVariables false

def Dly (ds : List Int) : Prop := ∀ x ∈ ds, 0 ≤ x ∧ x ≤ 4
theorem Dly.at {ds : List Int} (h : Dly ds) {i : Nat} {x : Int} (hx : ds[i]? = some x) : ∃ q : Nat, x = q ∧ q < 5 := by
  have := h x (List.mem_of_getElem? hx)
  exact ⟨x.toNat, by omega, by omega⟩
theorem Dly.snoc {ds : List Int} (h : Dly ds) {d : Nat} (hd : d < 5) : Dly (ds ++ [(d : Int)]) := fun x hx => by
  rcases List.mem_append.1 hx with hx | hx
  · exact h x hx
  · simp at hx; subst hx; omega
def GoP (w0 : World) (g n : Nat) (cl : Nat → Nat → Nat → Nat → Bool) (k : Nat) : Prop :=
    ∀ (m : Nat) (ds : List Int) (S : Int) (st : Option (List Int × Int)) (w : World) (D : Option Addr) (d : Nat), m + k = n → ds.length = m → sumL ds = S → Dly ds →
      w.ownsRow w0.heap.size 3 1 (.slice D m d) m (flat ds) → Gw w0 w → SearchD w g w0.heap.size cl n st →
      Calls Try.prog 34 #[.pointer (some ⟨g, 0, none⟩), .slice D m d, .int .i64 S] w (fun e w' => e = .returned (.tuple #[]) ∧ SearchD w' g w0.heap.size cl n (goD cl k ds st) ∧ w.grownBy w' (some g))

set_option maxHeartbeats 16000000 in
set_option maxRecDepth 100000 in
theorem go_tail (w0 : World) (g n : Nat) (cl : Nat → Nat → Nat → Nat → Bool) (h1 : 1 ≤ n) (h6 : n ≤ 6) (hg : w0.heap.size ≤ g) (k : Nat) (IH : ∀ k', k = k' + 1 → GoP w0 g n cl k') {s3 s4 s5 s7 s8 s9 s10 s11 s12 s13 s14 s15 s16 s17 s18 s19 s20 s21 s22 s23 s24 s25 s26 s27 s28 s29 s30 s31 s32 s33 s34 s35 s36 s37 s38 s39 s40 s41 s42 s43 s44 s45 s46 s47 s48 s49 s50 s51 s52 s53 s54 s55 s56 s57 s58 s59 s60 s61 s62 s63 s64 s65 s66 s67 s68 s69 s70 s71 s72 s73 s74 s75 s76 s77 s78 s79 : Value}
    (m : Nat) (ds : List Int) (S : Int) (st : Option (List Int × Int)) (w w1 : World) (D : Option Addr) (d : Nat) (hmk : m + k = n) (Hds : Hid (ds.length = m)) (HS : Hid (sumL ds = S)) (Hdl : Hid (Dly ds))
    (hown : w1.ownsRow w0.heap.size 3 1 (.slice D m d) m (flat ds)) (hgw : Gw w0 w1) (hbest : SearchD w1 g w0.heap.size cl n st) (hns : Hid (¬stopD st S)) (hww : Gw w w1) :
    Code.wp Try.prog (tailC 2 (Try.f34.body.getD .skip)) (bodyPost Try.prog Try.f34 (fun e w' => e = .returned (.tuple #[]) ∧ SearchD w' g w0.heap.size cl n (goD cl k ds st) ∧ w.grownBy w' (some g))) ⟨#[.pointer (some ⟨g, 0, none⟩), .slice D m d, .int .i64 S, s3, s4, s5, .int .i64 m, s7, s8, s9, s10, s11, s12, s13, s14, s15, s16, s17, s18, s19, s20, s21, s22, s23, s24, s25, s26, s27, s28, s29, s30, s31, s32, s33, s34, s35, s36, s37, s38, s39, s40, s41, s42, s43, s44, s45, s46, s47, s48, s49, s50, s51, s52, s53, s54, s55, s56, s57, s58, s59, s60, s61, s62, s63, s64, s65, s66, s67, s68, s69, s70, s71, s72, s73, s74, s75, s76, s77, s78, s79], []⟩ w1 := by
  conv => arg 2; whnf
  conv => arg 4; zeta
  have hSb := sumL_bd Hdl.out
  rw [HS.out, Hds.out] at hSb
  cases k with
  | zero =>
    obtain rfl : m = n := by omega
    obtain ⟨v, e, cs, htab, hst⟩ := hbest
    have hgl := htab.box.lt
    have c900 := htab.box.cell 900 htab.num
    have e1 : ((m : Int) == (m : Int)) = true := by simp
    have hrd : Hid (Rd w1 D ds) := own_rd (by rw [Hds.out]; exact hown)
    have Htab := Lib.hid htab
    clear htab
    go_wp2_with fail
    refine (i_copyInts _ _ _ ds _ Hds.out (by omega) hrd.out).mono ?_
    rintro _ w2 ⟨A2, c2, rfl, hown2, hb2⟩
    have htab2 := Htab.out.gw hb2
    have y901 := htab2.box.free 901
    have c901 := htab2.box.cell 901 htab2.best
    have hq := htab2.box.set 901 (.slice A2 m c2)
    have y902 := hq.free 902
    have c902 := hq.cell 902 (by rw [Array.getElem?_setIfInBounds, if_neg (by omega)]; exact htab2.sum)
    have htab3 := Lib.hid (htab2.setBest (.slice A2 m c2) S)
    have hgr3 := Lib.hid (grow_set1 (grow_set1 (World.grownBy.refl w2 (some g)) 901 (.slice A2 m c2)) 902 (.int .i64 S))
    have hown3 := Lib.hid (own_box hown2 htab2.box (by decide) hgr3.out)
    clear hq htab2 hst
    go_wp2_with fail
    ((try simp only [Exit.inBlock, Exit.then]); refine bodyPost_ret (v := .tuple #[]) (by simp [results, Try.results34, go_sem]) rfl ?_)
    obtain ⟨h, rfl, -, -⟩ : ∃ h, A2 = some ⟨h, 0, none⟩ ∧ w1.heap.size ≤ h ∧ h < w2.heap.size := by
      obtain ⟨A', c', hv, _, _, h0, _⟩ := own_form hown2
      simp only [Value.slice.injEq, true_and] at hv
      obtain ⟨rfl, rfl⟩ := hv
      exact h0 (by omega)
    refine ⟨rfl, ⟨_, _, _, htab3.out, .inr ⟨ds, h, c2, ?_, hSb.1, by omega, Hds.out, rfl, own_lower hown3.out (by have := hgw.size; omega)⟩⟩, grownBy_trans (hww.by_ _) (grownBy_trans (hb2.by_ _) hgr3.out)⟩
    rw [goD_zero (by rw [HS.out]; exact hns.out), HS.out]
  | succ k =>
    obtain ⟨i0, hi, hz0, hz1, hz2'⟩ := info_parts infoInt
    have hmn : m < n := by omega
    have e1 : ((m : Int) == (n : Int)) = false := by simp; omega
    have IH := Lib.hid (IH k rfl)
    obtain ⟨v, e, cs, htab, hst⟩ := hbest
    have hbest : SearchD w1 g w0.heap.size cl n st := ⟨v, e, cs, htab, hst⟩
    have hgl := htab.box.lt
    have c900 := htab.box.cell 900 htab.num
    have Hbox := Lib.hid htab.box
    have Hown := Lib.hid hown
    have Hmk := Lib.hid hmk
    have hm6 : (m : Int) < 6 := by omega
    have hm0 : (0 : Int) ≤ (m : Int) := by omega
    clear htab hst hown hmk
    go_wp2_with fail
    go_loopw [7] (fun q wr => ∃ (i : Nat) (st' : Option (List Int × Int)), q = .int .i64 i ∧ i ≤ 5 ∧ Hid (st' = (List.range i).foldl (roundD cl k ds) st) ∧ SearchD wr g w0.heap.size cl n st' ∧ w1.grownBy wr (some g)) (fun q _ => 5 - (intOf q).toNat)
    case atStart => exact ⟨0, st, by go_num, by omega, rfl, hbest, World.grownBy.refl _ _⟩
    case round =>
      obtain ⟨wo, rfl⟩ : ∃ wo : World, wo = wr := ⟨_, rfl⟩
      obtain ⟨i, st', rfl, hin, hst', hb, hgr⟩ := hrel
      have Hgr := Lib.hid hgr
      have hgwo := gw_box hgw hg hgr
      have hgz := hgr.size
      clear hgr
      by_cases hlt : i < 5
      · have hd4 : decide ((i : Int) ≤ 4) = true := by simp; omega
        have hi5 : (i : Int) < 5 := by omega
        have hi0 : (0 : Int) ≤ (i : Int) := by omega
        obtain ⟨v', e', cs', htab', hst2⟩ := hb
        have hb : SearchD wo g w0.heap.size cl n st' := ⟨v', e', cs', htab', hst2⟩
        have Htab' := Lib.hid htab'
        have hownO := Lib.hid (own_box Hown.out Hbox.out (by decide) Hgr.out)
        have hrd : Hid (Rd wo D ds) := own_rd (by rw [Hds.out]; exact hownO.out)
        clear htab' hst2
        have hbest2 := Lib.hid hb
        clear hb
        go_wp2_with fail
        go_loop [8, 47] (fun b q => ∃ j : Nat, q = .int .i64 j ∧ j ≤ m ∧ b = .bool (goodTo cl ds i j)) (fun _ q => m - (intOf q).toNat)
        case atStart => exact ⟨0, by go_num, Nat.zero_le _, by rw [goodTo_zero]⟩
        case round =>
          obtain ⟨j, rfl, hj, rfl⟩ := hrel
          by_cases hjm : j < m
          · obtain ⟨x, hx⟩ := get_of_lt (l := ds) (k := j) (by rw [Hds.out]; exact hjm)
            obtain ⟨q, rfl, hq5⟩ := Hdl.out.at hx
            obtain ⟨b, off, rfl, hbl, d0⟩ := hrd.out.get1 hx
            have hsu : Hid (goodTo cl ds i (j + 1) = (goodTo cl ds i j && !cl j m q i)) := by
              unfold Hid
              rw [goodTo_succ, Hds.out, getD_of hx, Int.toNat_natCast]
            clear hx
            have hj0 : (0 : Int) ≤ (j : Int) := by omega
            have hj6 : (j : Int) < 6 := by omega
            have hjm' : (j : Int) < (m : Int) := by omega
            have hq0 : (0 : Int) ≤ (q : Int) := by omega
            have hq5' : (q : Int) < 5 := by omega
            have hcell := Htab'.out.cell (i := j) (k := m) (p := q) (q := i) (by omega) (by omega) hq5 hlt
            generalize hcb : cl j m q i = cb at hsu hcell
            clear hcb
            generalize hgt : goodTo cl ds i j = gt at hsu ⊢
            clear hgt
            cases gt with
            | false =>
              have hsu2 : Hid (goodTo cl ds i (j + 1) = false) := hsu
              go_wp2_with fail
              go_round
              case rel => exact ⟨j + 1, by go_num, by omega, by rw [hsu2.out]⟩
              case measure => simp [intOf]; omega
            | true =>
              have hsu2 : Hid (goodTo cl ds i (j + 1) = !cb) := hsu
              go_wp2_with fail
              go_round
              case rel => exact ⟨j + 1, by go_num, by omega, by rw [hsu2.out]⟩
              case measure => simp [intOf]; omega
          · obtain rfl : j = m := by omega
            have hgB : Hid (goodB cl ds i = goodTo cl ds i j) := by unfold Hid goodB; rw [Hds.out]
            generalize hgt : goodTo cl ds i j = gt at hgB ⊢
            clear hgt
            have hstep : Hid ((List.range (i + 1)).foldl (roundD cl k ds) st = if gt = true then goD cl k (ds ++ [(i : Int)]) st' else st') := by
              unfold Hid
              rw [List.range_succ, List.foldl_append, ← hst'.out, List.foldl_cons, List.foldl_nil, roundD, hgB.out]
            cases gt with
            | false =>
              go_wp2_with fail
              go_roundw
              case rel => exact ⟨i + 1, st', by go_num, by omega, hstep.out.symm, hbest2.out, Hgr.out⟩
              case measure => simp [intOf]; omega
            | true =>
              go_wp2_with fail
              refine (i_copyInts _ _ _ ds _ Hds.out (by omega) hrd.out).mono ?_
              rintro _ w2 ⟨A2, c2, rfl, hown2, hb2⟩
              have hz2 := hb2.size
              have hgw2 := hgwo.trans hb2
              have hsn : Hid (sumL (ds ++ [(i : Int)]) = S + (i : Int)) := by unfold Hid; rw [sumL_snoc, HS.out]
              have HB2 := Lib.hid hb2
              have hw2z := hgw2.size
              dsimp only
              go_wp2_with ((at_builtin; refine wpList_cat2 (α := Int) rfl (.tmp 72) (.tmp 74) 23 (by rfl) wo.heap.size 3 i0 _ 8 Try.underlying23 hi hz0 hz1 hz2' rfl (by omega) ds j Hds.out A2 c2 (by rfl) [(i : Int)] 1 rfl _ 1 (by rfl) (rdBox w2 _ (i : Int)) (hown2.alloc _) (by omega) (by omega) (by simp; omega) ?_; intro A3 c3 w3 hown3 hgg3 hgr3))
              have hgo3 : Gw wo w3 := hgg3 wo (HB2.out.alloc _) (Nat.le_refl _)
              clear hgg3 hgr3
              refine (IH.out (j + 1) (ds ++ [(i : Int)]) (S + (i : Int)) st' w3 A3 c3 (by have := Hmk.out; omega) (by rw [List.length_append, Hds.out]; rfl) hsn.out (Hdl.out.snoc hlt) (own_lower hown3 (by have := hgwo.size; omega)) (hgwo.trans hgo3) (hbest2.out.gw hgo3)).mono ?_
              rintro _ w5 ⟨rfl, h5, h6⟩
              have H5 := Lib.hid h5
              have H6 := Lib.hid h6
              clear h5 h6
              dsimp only
              go_wp2_with fail
              go_roundw
              case rel => exact ⟨i + 1, _, by go_num, by omega, by rw [hstep.out, if_pos trivial]; rfl, H5.out, grownBy_trans (grow_gw Hgr.out hgo3) H6.out⟩
              case measure => simp [intOf]; omega
      · obtain rfl : i = 5 := by omega
        have hfin : Hid (st' = goD cl (k + 1) ds st) := by
          unfold Hid
          rw [goD_succ (by rw [HS.out]; exact hns.out)]
          exact hst'.out
        go_wp2_with fail
        ((try simp only [Exit.inBlock, Exit.then]); refine bodyPost_end (v := .tuple #[]) (by simp [results, Try.results34, go_sem]) rfl ?_)
        exact ⟨rfl, by rw [← hfin.out]; exact hb, grownBy_trans (hww.by_ _) Hgr.out⟩

set_option maxHeartbeats 16000000 in
set_option maxRecDepth 100000 in
theorem go_one (w0 : World) (g n : Nat) (cl : Nat → Nat → Nat → Nat → Bool) (h1 : 1 ≤ n) (h6 : n ≤ 6) (hg : w0.heap.size ≤ g) (k : Nat) (IH : ∀ k', k = k' + 1 → GoP w0 g n cl k') : GoP w0 g n cl k := by
  intro m ds S st w D d hmk hds hS hdl hown hgw hbest
  have Hds := Lib.hid hds
  have HS := Lib.hid hS
  have Hdl := Lib.hid hdl
  have Hbest := Lib.hid hbest
  have Hown := Lib.hid hown
  clear hds hS hdl hown
  obtain ⟨v, e, cs, htab, hst⟩ := hbest
  have hgl := htab.box.lt
  have c901 := htab.box.cell 901 htab.best
  have c902 := htab.box.cell 902 htab.sum
  have qN : ∀ (w : World) (a : Option Addr) (n c : Nat), (binOp .neq 23 (.slice a n c) (.slice none 0 0)).run Try.prog w = .ok (.bool (!a.isNone)) w := fun w a n c => run_neq_slice_nil w _ _ a n c Try.underlying23
  clear htab
  rcases hst with ⟨rfl, rfl, rfl⟩ | ⟨o', h, c', rfl, he0, he24, hol, rfl, hown'⟩
  · go_enter Try.func34, Try.ntmps34
    repeat (first | (go_at_K; go_step; exact go_tail w0 g n cl h1 h6 hg k IH m ds S _ w _ D d hmk Hds HS Hdl Hown.out hgw Hbest.out (fun h => h) (Gw.refl _)) | go_step)
    trace_state
  · by_cases hle : e ≤ S
    · have e1 : decide (S ≥ e) = true := by simp; omega
      have e2 : decide (e ≤ S) = true := by simp; omega
      have hs : Hid (goD cl k ds (some (o', e)) = some (o', e)) := goD_stop (by rw [HS.out]; exact hle)
      clear hown' hle
      go_enter Try.func34, Try.ntmps34
      go_wp2_with fail
      ((try simp only [Exit.inBlock, Exit.then]); refine bodyPost_ret (v := .tuple #[]) (by simp [results, Try.results34, go_sem]) rfl ?_)
      exact ⟨rfl, by rw [hs.out]; exact Hbest.out, World.grownBy.refl _ _⟩
    · have e1 : decide (S ≥ e) = false := by simp; omega
      have e2 : decide (e ≤ S) = false := by simp; omega
      have hns : ¬stopD (some (o', e)) S := hle
      have Hns := Lib.hid hns
      clear hown' hle hns
      go_enter Try.func34, Try.ntmps34
      repeat (first | (go_at_K; go_step; exact go_tail w0 g n cl h1 h6 hg k IH m ds S _ w _ D d hmk Hds HS Hdl Hown.out hgw Hbest.out Hns (Gw.refl _)) | go_step)
      trace_state
theorem i_goOn (w0 : World) (g n : Nat) (cl : Nat → Nat → Nat → Nat → Bool) (h1 : 1 ≤ n) (h6 : n ≤ 6) (hg : w0.heap.size ≤ g) : ∀ k, GoP w0 g n cl k
  | 0 => go_one w0 g n cl h1 h6 hg 0 (fun k' h => by omega)
  | k + 1 => go_one w0 g n cl h1 h6 hg (k + 1) (fun k' h => (show k = k' by omega) ▸ i_goOn w0 g n cl h1 h6 hg k)
end Go.Proofs.Ytphfaeefjcdjjaa
