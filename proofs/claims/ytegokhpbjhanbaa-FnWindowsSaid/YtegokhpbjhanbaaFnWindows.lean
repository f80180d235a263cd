/-
  The law FnWindows answers true at every input, and its arguments read afterwards as they read before.
-/
import Derived.Test.YtegokhpbjhanbaaRows
import Derived.Test.YtegokhpbjhanbaaFwB
import Derived.Test.YtegokhpbjhanbaaLaw
import Derived.Test.YtegokhpbjhanbaaTell
namespace Go.Proofs.Ytegokhpbjhanbaa.lawFnWindows
open Go.ChangeShapes Go.WideShapes Go.ChangeAt Go.RowKit
set_option linter.unusedVariables false

theorem own : ownKnob Try.prog.godebug = none := by kernel_rfl

-- params: rows:code:UInt8 rows:more:UInt8
-- import: FwB
-- import: Law
-- import: Tell
set_option maxHeartbeats 8000000 in
set_option maxRecDepth 100000 in
theorem walk (w : World) (A_code : Option Addr) (code : List UInt8) (c_code : Nat) (hm_code : code.length ≤ 9223372036854775807) (rd_code : Rd w A_code code) (A_more : Option Addr) (more : List UInt8) (c_more : Nat) (hm_more : more.length ≤ 9223372036854775807) (rd_more : Rd w A_more more) :
    Calls Try.prog 9 #[.slice A_code code.length c_code, .slice A_more more.length c_more] w fun e w' => e = .returned (.bool true) ∧ Gw w w' := by
  go_enter Try.func9, Try.ntmps9
  go_wp2_with fail
  refine (l_big _ _ _ _ _ _ _ hm_code hm_more).mono ?_
  rintro _ w1 (⟨hp, rfl, hb⟩ | ⟨hp, rfl, hb⟩)
  · go_wp2_with fail
    go_ret
    exact ⟨rfl, hb⟩
  clear hp
  go_wp2_with fail
  refine (d_AddWindow _ _ _ _ hm_code (rd_code.gw hb)).mono ?_
  rintro _ w2 ⟨l, D, cl, p, f, t, rfl, hB, hll, ⟨hp1, hf1, ht1⟩, own, hb2⟩
  have G2 : Gw w w2 := hb.trans hb2
  have rdl0 := own_rd own
  have hcap := own_cap2 own
  have hl : l.length ≤ 1048576 := by omega
  clear hb hb2 own rd_code hll
  go_wp2_with fail
  have B1 := heap_alloc_new w2 (.cells #[.int .i64 p, .int .i64 f, .int .i64 t] 30)
  have GW := G2.alloc (.cells #[.int .i64 p, .int .i64 f, .int .i64 t] 30)
  have rdl := rdl0.gw ((Gw.refl w2).alloc (.cells #[.int .i64 p, .int .i64 f, .int .i64 t] 30))
  have hsW : (w2.alloc (.cells #[.int .i64 p, .int .i64 f, .int .i64 t] 30)).heap.size = w2.heap.size + 1 := by simp
  have e0 := cell_of_row _ _ 0 _ _ _ B1
  have e1 := cell_of_row _ _ 1 _ _ _ B1
  have e2 := cell_of_row _ _ 2 _ _ _ B1
  simp only [List.getElem?_toArray, List.getElem?_cons_zero, List.getElem?_cons_succ] at e0 e1 e2
  generalize w2.alloc (.cells #[.int .i64 p, .int .i64 f, .int .i64 t] 30) = W1 at *
  have hs0 : w2.heap.size < W1.heap.size := by omega
  clear B1 hsW rdl0 G2
  generalize w2.heap.size = g at *
  obtain ⟨al, ok, AI, AS, hal, F⟩ : ∃ (al : List W3) (o : Bool), (∀ W A c, Rd W A l → l.length ≤ c → Calls Try.prog 14 #[.slice A l.length c, .agg #[.int .i64 p, .int .i64 f, .int .i64 t]] W fun e w' => ∃ A c', e = .returned (.tuple #[.slice A al.length c', .bool o]) ∧ w'.ownsRow W.heap.size 30 3 (.slice A al.length c') al.length (flat al) ∧ Gw W w') ∧
      (∀ W A c, Rd W A l → l.length ≤ c → Calls Try.prog 11 #[.slice A l.length c, .agg #[.int .i64 p, .int .i64 f, .int .i64 t]] W fun e w' => ∃ A c', e = .returned (.tuple #[.slice A al.length c', .bool o]) ∧ w'.ownsRow W.heap.size 30 3 (.slice A al.length c') al.length (flat al) ∧ Gw W w') ∧ al.length ≤ 1048576 ∧ Hid (o = true → addF l p f t = (al, true)) :=
    ⟨(addF l p f t).1, (addF l p f t).2, fun W A c h hc => i_AddWindow A c l p f t W hl h hc, fun W A c h hc => s_AddWindow A c l p f t W hl h hc, addF_len l p f t, fun h => Prod.ext rfl h⟩
  refine (AI _ _ _ rdl hcap).mono ?_
  rintro _ w3 ⟨A3, c3, rfl, own3, G3⟩
  have rdl3 := rdl.gw G3
  have hc3 := G3.cells
  go_wp2_with fail
  refine (AS _ _ _ rdl3 hcap).mono ?_
  rintro _ w4 ⟨A4, c4, rfl, own4, hb4⟩
  have G4 : Gw W1 w4 := G3.trans hb4
  have rdl4 := rdl3.gw hb4
  have rda := (own_rd own3).gw hb4
  have rdb := own_rd own4
  clear hc3 AI AS G3 own3 own4 hb4 rdl3 rdl
  have F : Hid (ok = true → WinsP l ∧ WinP p f t ∧ WinsP al ∧ (∀ h : Int, f ≤ h → h < t → openP al p h) ∧ hoursS p l ≤ hoursS p al ∧ hoursS p al ≤ hoursS p l + t - f) := fun h => add_facts (F.out h)
  cases ok
  all_goals
    go_wp2_with fail
    refine (l_pSameWindows _ _ _ _ _ _ hal rda rdb).mono ?_
    rintro e w5 ⟨rfl, hb5⟩
    have G5 : Gw W1 w5 := G4.trans hb5
    have rdl5 := rdl4.gw hb5
    have rda5 := rda.gw hb5
    have rdb5 := rdb.gw hb5
    dsimp only
  · repeat (first | (go_at_K; go_step; exact tail7 hm_more (rd_more.gw (GW.trans G5)) (GW.trans G5)) | go_step)
  · obtain ⟨hW, hP, hWa, F1, F2, F3⟩ := F.out (by trivial)
    have HW := Lib.hid hW
    have HWa := Lib.hid hWa
    have HB := Lib.hid hB
    have HP := Lib.hid hP
    have F1 := Lib.hid F1
    obtain ⟨hq1, hq2, hq3⟩ := hP
    clear F hW hWa hB
    have hc5 := G5.cells
    go_wp2_with fail
    go_loopw [11] (fun h wr => ∃ k : Int, h = .int .i64 k ∧ f ≤ k ∧ k ≤ t ∧ Gw w5 wr) (fun h _ => (t - intOf h).toNat)
    case atStart => exact ⟨f, rfl, by omega, by omega, Gw.refl _⟩
    case round =>
      obtain ⟨k, rfl, hk1, hk2, hg⟩ := hrel
      have Gk : Gw W1 wr := G5.trans hg
      have hck := Gk.cells
      by_cases hlt : k < t
      · have hr : InR k 0 167 := ⟨by omega, by omega⟩
        obtain ⟨o, OI, OS, hol, F4⟩ : ∃ o : List Int, (∀ W A c, Rd W A al → Calls Try.prog 43 #[.slice A al.length c, .int .i64 k] W fun e w' => ∃ A c, e = .returned (.tuple #[.slice A o.length c, .bool true]) ∧
            w'.ownsRow W.heap.size 3 1 (.slice A o.length c) o.length (flat o) ∧ Gw W w') ∧ (∀ W A c, Rd W A al → Calls Try.prog 44 #[.slice A al.length c, .int .i64 k] W fun e w' => ∃ A c, e = .returned (.tuple #[.slice A o.length c, .bool true]) ∧
            w'.ownsRow W.heap.size 3 1 (.slice A o.length c) o.length (flat o) ∧ Gw W w') ∧ o.length ≤ 1048576 ∧ Hid (p ∈ o) := by
          obtain ⟨o, h1, h2⟩ := open_ok HWa.out hr
          refine ⟨o, fun W A c h => ?_, fun W A c h => ?_, ?_, (h2 p).2 (F1.out k hk1 hlt)⟩
          · have := i_OpenPlaces A c al k W hal h
            rw [h1] at this
            exact this
          · have := s_OpenPlaces A c al k W hal h
            rw [h1] at this
            exact this
          · have := openF_len al k
            rw [h1] at this
            exact this
        go_wp2_with fail
        refine (OI _ _ _ (rda5.gw hg)).mono ?_
        rintro _ w6 ⟨A6, c6, rfl, own6, hb6⟩
        have hg6 : Gw w5 w6 := hg.trans hb6
        go_wp2_with fail
        refine (OS _ _ _ (rdb5.gw hg6)).mono ?_
        rintro _ w7 ⟨A7, c7, rfl, own7, hb7⟩
        have hg7 : Gw w5 w7 := hg6.trans hb7
        have rd6 := (own_rd own6).gw hb7
        have rd7 := own_rd own7
        have G7 : Gw W1 w7 := G5.trans hg7
        clear own6 own7 hb6 hb7 OI OS hck
        have hc7 := G7.cells
        go_wp2_with fail
        refine (l_sameInts _ _ _ _ _ _ hol rd6 rd7).mono ?_
        rintro e w8 ⟨rfl, hb8⟩
        have hg8 : Gw w5 w8 := hg7.trans hb8
        have G8 : Gw W1 w8 := G7.trans hb8
        clear hc7
        have hc8 := G8.cells
        go_wp2_with fail
        refine (l_pIn _ _ _ _ _ hol (rd7.gw hb8)).mono ?_
        rintro _ w9 (⟨hp, rfl, hb9⟩ | ⟨hp, rfl, hb9⟩)
        · go_wp2_with fail
          go_roundw
          case rel => exact ⟨k + 1, by go_num, by omega, by omega, hg8.trans hb9⟩
          case measure => simp [intOf]; omega
        · exact absurd F4.out hp
      · obtain rfl : k = t := by omega
        have hB1 := hoursS_bd HW.out.1 p
        have hl20 : l.length ≤ 20 := HW.out.2.2
        obtain ⟨n1, HI1, hn1⟩ : ∃ n : Int, (∀ W A c, Rd W A l → Calls Try.prog 47 #[.slice A l.length c, .int .i64 p] W fun e w' => e = .returned (.tuple #[.int .i64 n, .bool true]) ∧ Gw W w') ∧ n = hoursS p l :=
          ⟨_, fun W A c h => by have := i_HoursOf A c l p W hl h; rw [hoursV_yes ⟨HW.out, hq1⟩] at this; exact this, rfl⟩
        obtain ⟨n2, HI2, hn2⟩ : ∃ n : Int, (∀ W A c, Rd W A al → Calls Try.prog 47 #[.slice A al.length c, .int .i64 p] W fun e w' => e = .returned (.tuple #[.int .i64 n, .bool true]) ∧ Gw W w') ∧ n = hoursS p al :=
          ⟨_, fun W A c h => by have := i_HoursOf A c al p W hal h; rw [hoursV_yes ⟨HWa.out, hq1⟩] at this; exact this, rfl⟩
        rw [← hn1, ← hn2] at F2 F3
        rw [← hn1] at hB1
        clear hn1 hn2
        go_wp2_with fail
        refine (HI1 _ _ _ (rdl5.gw hg)).mono ?_
        rintro _ w6 ⟨rfl, hb6⟩
        have hg6 : Gw w5 w6 := hg.trans hb6
        have G6 : Gw W1 w6 := G5.trans hg6
        clear hck
        have hc6 := G6.cells
        go_wp2_with fail
        refine (HI2 _ _ _ (rda5.gw hg6)).mono ?_
        rintro _ w7 ⟨rfl, hb7⟩
        have hg7 : Gw w5 w7 := hg6.trans hb7
        have G7 : Gw W1 w7 := G5.trans hg7
        clear hc6 hb6 hb7 HI1 HI2
        have hc7 := G7.cells
        have hw1 : IntKind.i64.wrap (n1 + k) = n1 + k := IntWalk.i64_in _ (by omega)
        have hw2 : IntKind.i64.wrap (n1 + k - f) = n1 + k - f := IntWalk.i64_in _ (by omega)
        have hd1 : decide (n2 < n1) = false := by simp; omega
        have hd2 : decide (n1 + k - f < n2) = false := by simp; omega
        go_wp2_with fail
        refine (i_AreWindows _ _ _ _ hal (rda5.gw hg7)).mono ?_
        rintro _ w8 (⟨hp, rfl, hb8⟩ | ⟨hp, rfl, hb8⟩)
        · have hg8 : Gw W1 w8 := G7.trans hb8
          dsimp only
          repeat (first | (go_at_K; go_step; exact tail7 hm_more (rd_more.gw (GW.trans hg8)) (GW.trans hg8)) | go_step)
        · exact absurd HWa.out hp


set_option maxRecDepth 100000 in
theorem lifted (os : Os) (started : os.Started) (H : Type) (enc : TypeId × Value → H) :
    ReturnsInHanded {} Try.checked os 9 .any (Rows.fnWindowsSpec.pre6 enc Try.prog Try.f9 Rows.fnWindowsRow.domain false) (Rows.fnWindowsSpec.post enc Try.prog Try.f9 false true false false) := by
  refine returnsInHanded_of_change (C := Try.checked) own started (by kernel_rfl) Try.func9
    (ChangeSpec.witness6 (enc := enc) (C := Try.checked) false ⟨#[], #[.slice none 0 0, .slice none 0 0], []⟩ 8 (by kernel_rfl) (by kernel_rfl) (by kernel_rfl) (by kernel_rfl)) ?_
  intro W base args ds gs before hval0 hW hcnd _
  have hval : ∀ (j : Nat) t v, Try.f9.params[j]? = some t → args[j]? = some v → Value.okWide Try.prog W .any base t v := hval0
  have hW' := hW
  have hlt0 : ∀ p ∈ before, p.block < W.heap.size := fun p hp => hW.lt p hp
  obtain ⟨p, q, hA0, hV, rfl, hfz, hnd⟩ := hW
  have hlt : ∀ x ∈ p, x.block < W.heap.size := fun x hx => hlt0 x (List.mem_append_left _ hx)
  have hA : DataW.TrodAll enc Try.prog W 0 (fun _ => true) true Try.f9.params.toList args.toList ds p := hA0
  rw [Try.params9] at hA hval
  obtain ⟨v0, vs0, d0, ds0, p0, q0, hargs, rfl, rfl, h0, r0⟩ := trodAll_cons hA
  obtain ⟨v1, vs1, d1, ds1, p1, q1, rfl, rfl, rfl, h1, r1⟩ := trodAll_cons r0
  obtain ⟨rfl, rfl, rfl⟩ := trodAll_nil r1
  obtain rfl : args = #[v0, v1] := by cases args; simp_all
  obtain ⟨rfl, rfl⟩ := trodVars_none hV
  obtain ⟨A_code, code, c_code, rfl, hlc_code, hmc_code, rd_code, ok_code⟩ := open_rows (α := UInt8) (n := 6) Try.underlying61 (by kernel_rfl) (by kernel_rfl) (hval 0 61 v0 rfl rfl) h0 (fun x hx => hlt x (by simp [hx]))
  have hm_code : code.length ≤ 9223372036854775807 := by have := Nat.le_trans hlc_code hmc_code; unfold maxLen at this; omega
  obtain ⟨A_more, more, c_more, rfl, hlc_more, hmc_more, rd_more, ok_more⟩ := open_rows (α := UInt8) (n := 6) Try.underlying61 (by kernel_rfl) (by kernel_rfl) (hval 1 61 v1 rfl rfl) h1 (fun x hx => hlt x (by simp [hx]))
  have hm_more : more.length ≤ 9223372036854775807 := by have := Nat.le_trans hlc_more hmc_more; unfold maxLen at this; omega
  refine (walk W A_code code c_code hm_code rd_code A_more more c_more hm_more rd_more).mono fun e W' ⟨he, hg⟩ => ?_
  subst he
  exact ⟨_, rfl, post_law (by kernel_rfl) (by rw [Try.params9]; exact plainTypes (by kernel_rfl)) rfl Try.underlying4 rfl ⟨rfl, rfl, rfl⟩ hW' hg⟩

theorem over : Rows.fnWindowsRow.holds Try.pinned (OpenSpec.ofChange Rows.fnWindowsSpec) :=
  OpenClaim.holds_of_wide 9 Try.f9 rfl rfl rfl rfl rfl rfl rfl ⟨rfl, rfl, rfl, rfl, rfl⟩ rfl rfl rfl rfl rfl (by kernel_rfl) Try.func9 (by kernel_rfl)
    (of_decide_eq_true (by kernel_rfl)) (by unfold Func.isWrapper; first | (rw [if_pos (by decide +kernel)]; kernel_rfl) | (rw [if_neg (by decide +kernel)]; exact ⟨rfl, rfl⟩))
    (fun os started H enc _ => lifted os started H enc)

/-- The statement. -/
theorem proved : Rows.FnWindowsSaid :=
  over
#print axioms proved
end Go.Proofs.Ytegokhpbjhanbaa.lawFnWindows
