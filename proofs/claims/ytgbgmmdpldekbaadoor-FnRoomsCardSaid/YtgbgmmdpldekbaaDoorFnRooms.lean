/-
  The law FnRooms answers true at every input, and its arguments read afterwards as they read before.
-/
import Derived.Test.YtgbgmmdpldekbaaDoorTie
import Derived.Test.YtgbgmmdpldekbaaDoorCards
import Derived.ProofKit
import Derived.LaidMore
import Derived.Lay
import Derived.SevenTiedAt
import Derived.Stop.Joined
import Derived.Test.YtgbgmmdpldekbaaDoorShape
import Derived.Test.YtgbgmmdpldekbaaDoorFrAll
import Derived.Test.YtgbgmmdpldekbaaDoorLaw
import Derived.Test.YtgbgmmdpldekbaaDoorTell
namespace Go.Proofs.YtgbgmmdpldekbaaDoor.lawFnRooms
open Go.ChangeShapes Go.WideShapes Go.ChangeAt Go.RowKit
set_option linter.unusedVariables false

theorem own : ownKnob Tryd.prog.godebug = none := by kernel_rfl

-- params: rows:code:UInt8 rows:more:UInt8
-- import: FrAll
-- import: Law
-- import: Tell
set_option maxHeartbeats 8000000 in
set_option maxRecDepth 100000 in
theorem walk (w : World) (A_code : Option Addr) (code : List UInt8) (c_code : Nat) (hm_code : code.length ≤ 9223372036854775807) (rd_code : Rd w A_code code) (A_more : Option Addr) (more : List UInt8) (c_more : Nat) (hm_more : more.length ≤ 9223372036854775807) (rd_more : Rd w A_more more) (hTab : TabP w) (hM : MaxP w) :
    Calls Tryd.prog 4 #[.slice A_code code.length c_code, .slice A_more more.length c_more] w fun e w' => e = .returned (.bool true) ∧ Gw w w' := by
  have HT := Lib.hid hTab
  have HM := Lib.hid hM
  clear hTab hM
  go_enter Tryd.func4, Tryd.ntmps4
  go_wp2_with fail
  refine (l_big _ _ _ _ _ _ _ hm_code hm_more).mono ?_
  rintro _ w1 (⟨hp, rfl, hb⟩ | ⟨hp, rfl, hb⟩)
  · go_wp2_with fail
    go_ret
    exact ⟨rfl, hb⟩
  clear hp
  go_wp2_with fail
  refine (d_FirstRoom _ _ _ _ hm_code (rd_code.gw hb)).mono ?_
  rintro _ w2 ⟨l, D, cl, h, f, rfl, hB, hll, own, hb2⟩
  have G2 : Gw w w2 := hb.trans hb2
  have rdl := own_rd (α := W3) own
  have hl : l.length ≤ 1048576 := by omega
  clear hb hb2 own rd_code hll hB
  obtain ⟨a, p, ok, RI, RS, F⟩ : ∃ (a p : Int) (o : Bool), (∀ W A c, Rd W A l → Calls Tryd.prog 26 #[.slice A l.length c, .int .i64 h, .int .i64 f] W fun e w' => e = .returned (.tuple #[.int .i64 a, .int .i64 p, .bool o]) ∧ Gw W w') ∧
      (∀ W A c, Rd W A l → Calls Tryd.prog 27 #[.slice A l.length c, .int .i64 h, .int .i64 f] W fun e w' => e = .returned (.tuple #[.int .i64 a, .int .i64 p, .bool o]) ∧ Gw W w') ∧ Hid (o = true → WinsP l ∧ InR h 1 168 ∧ InR f 0 167 ∧ f ≤ a ∧ 0 ≤ a ∧ a + h ≤ 168 ∧ (∀ k, a ≤ k → k < a + h → openP l p k) ∧ (f < a → (roomF l h (a - 1)).2.2 = true ∧ ¬openP l p (a - 1))) :=
    ⟨(roomF l h f).1, (roomF l h f).2.1, (roomF l h f).2.2, fun W A c hr => i_FirstRoom A c l h f W hl hr, fun W A c hr => s_FirstRoom A c l h f W hl hr, fun ho => room_facts (Prod.ext rfl (Prod.ext rfl ho))⟩
  have RI := Lib.hid RI
  go_wp2_with fail
  refine (RI.out _ _ _ rdl).mono ?_
  rintro _ w3 ⟨rfl, hb3⟩
  have G3 := G2.trans hb3
  have rdl := rdl.gw hb3
  dsimp only
  go_wp2_with fail
  refine (RS _ _ _ rdl).mono ?_
  rintro _ w4 ⟨rfl, hb4⟩
  have G4 := G3.trans hb4
  have rdl := rdl.gw hb4
  clear RS G2 G3 hb3 hb4
  dsimp only
  cases ok
  · clear F RI
    repeat (first | (go_at_K; go_step; exact fr7 hm_more (rd_more.gw G4) HT HM G4) | go_step)
  obtain ⟨hW, hh, hf, hfa, ha0, hah, hop, hlast⟩ := F.out (by trivial)
  have hh1 : 1 ≤ h ∧ h ≤ 168 := hh
  have hf1 : 0 ≤ f ∧ f ≤ 167 := hf
  have HW := Lib.hid hW
  have Hop := Lib.hid hop
  have Hlast := Lib.hid hlast
  have wah : IntKind.i64.wrap (a + h) = a + h := IntWalk.i64_in _ (by omega)
  have q1 : decide (a < f) = false := by simp; omega
  have q2 : decide (168 < a + h) = false := by simp; omega
  clear F hW hh hf hop hlast
  go_wp2_with fail
  go_loopw [14, 15, 16, 17, 18] (fun q _ _ _ _ wr => ∃ k : Nat, q = .int .i64 (a + (k : Int)) ∧ (k : Int) ≤ h ∧ Gw w4 wr) (fun q _ _ _ _ _ => (a + h - intOf q).toNat)
  case atStart => exact ⟨0, by simp, by omega, Gw.refl _⟩
  case round =>
    obtain ⟨k, rfl, hk, hg⟩ := hrel
    by_cases hlt : (k : Int) < h
    · have hr : InR (a + (k : Int)) 0 167 := ⟨by omega, by omega⟩
      obtain ⟨o, h1, h2⟩ := open_ok HW.out hr
      have hol : o.length ≤ 1048576 := by
        have := openF_len l (a + (k : Int))
        rw [h1] at this
        exact this
      have hmem := Lib.hid ((h2 p).2 (Hop.out _ (by omega) (by omega)))
      have T1 := fun u A c (h : Rd u A l) => i_OpenPlaces A c l (a + (k : Int)) u hl h
      have T2 := fun u A c (h : Rd u A l) => s_OpenPlaces A c l (a + (k : Int)) u hl h
      rw [h1] at T1 T2
      have T1 := Lib.hid T1
      have T2 := Lib.hid T2
      clear h1 h2
      have wk : IntKind.i64.wrap (a + (k : Int) + 1) = a + ((k + 1 : Nat) : Int) := by rw [IntWalk.i64_in _ (by omega)]; omega
      have hltz : a + (k : Int) < a + h := by omega
      go_wp2_with fail
      refine (T1.out _ _ _ (rdl.gw hg)).mono ?_
      rintro _ w6 ⟨A6, c6, rfl, own6, hb6⟩
      have hg6 := hg.trans hb6
      dsimp only
      go_wp2_with fail
      refine (T2.out _ _ _ (rdl.gw hg6)).mono ?_
      rintro _ w7 ⟨A7, c7, rfl, own7, hb7⟩
      have hg7 := hg6.trans hb7
      have rd6 := (own_rd own6).gw hb7
      have rd7 := own_rd own7
      clear own6 own7 T1 T2
      dsimp only
      go_wp2_with fail
      refine (l_sameInts _ _ _ _ _ _ hol rd6 rd7).mono ?_
      rintro _ w8 ⟨rfl, hb8⟩
      dsimp only
      go_wp2_with fail
      refine (l_pIn _ _ _ _ _ hol (rd7.gw hb8)).mono ?_
      rintro _ w9 (⟨hp, rfl, hb9⟩ | ⟨hp, rfl, hb9⟩)
      case inr => exact absurd hmem.out hp
      clear hp
      go_wp2_with fail
      go_roundw
      case rel => exact ⟨k + 1, by rfl, by omega, (hg7.trans hb8).trans hb9⟩
      case measure => simp [intOf]; omega
    · obtain rfl : (k : Int) = h := by omega
      have G6 := G4.trans hg
      have rdl := rdl.gw hg
      have hltz : ¬a + (k : Int) < a + (k : Int) := by omega
      by_cases hgt : f < a
      · obtain ⟨hr1, hr2⟩ := Hlast.out hgt
        have wa : IntKind.i64.wrap (a - 1) = a - 1 := IntWalk.i64_in _ (by omega)
        have hr : InR (a - 1) 0 167 := ⟨by omega, by omega⟩
        obtain ⟨o, h1, h2⟩ := open_ok HW.out hr
        have hol : o.length ≤ 1048576 := by
          have := openF_len l (a - 1)
          rw [h1] at this
          exact this
        have hno : p ∉ o := fun hm => hr2 ((h2 p).1 hm)
        have Hno := Lib.hid hno
        have T1 := fun u A c (h : Rd u A l) => i_OpenPlaces A c l (a - 1) u hl h
        rw [h1] at T1
        have T1 := Lib.hid T1
        have T3 := fun u A c (h : Rd u A l) => i_FirstRoom A c l (k : Int) (a - 1) u hl h
        rw [hr1] at T3
        generalize (roomF l (k : Int) (a - 1)).1 = z1 at *
        generalize (roomF l (k : Int) (a - 1)).2.1 = z2 at *
        have T3 := Lib.hid T3
        clear h1 h2 hno hr1 hr2
        have q3 : (a != a) = false := by simp
        have q4 : (p != p) = false := by simp
        go_wp2_with fail
        refine (T3.out _ _ _ rdl).mono ?_
        rintro _ w7 ⟨rfl, hb7⟩
        have G7 := G6.trans hb7
        have rdl := rdl.gw hb7
        dsimp only
        go_wp2_with fail
        refine (RI.out _ _ _ rdl).mono ?_
        rintro _ w8 ⟨rfl, hb8⟩
        have G8 := G7.trans hb8
        have rdl := rdl.gw hb8
        dsimp only
        go_wp2_with fail
        refine (T1.out _ _ _ rdl).mono ?_
        rintro _ w9 ⟨A9, c9, rfl, own9, hb9⟩
        have G9 := G8.trans hb9
        have rd9 := own_rd own9
        dsimp only
        go_wp2_with fail
        refine (l_pIn _ _ _ _ _ hol rd9).mono ?_
        rintro _ w10 (⟨hp, rfl, hb10⟩ | ⟨hp, rfl, hb10⟩)
        case inl => exact absurd hp Hno.out
        have G10 := G9.trans hb10
        clear hp
        dsimp only
        repeat (first | (go_at_K; go_step; exact fr7 hm_more (rd_more.gw G10) HT HM G10) | go_step)
      · have hgt2 : ¬f < a := hgt
        repeat (first | (go_at_K; go_step; exact fr7 hm_more (rd_more.gw G6) HT HM G6) | go_step)


theorem tabP {W : World} (h : laidMetH Tryd.prog Rows.fnRoomsRow.laid W) : TabP W := by
  rw [MakeChecks.laidMetH_plain _ _ _ (by kernel_rfl)] at h
  obtain ⟨ps, ⟨g0, t0, cs0, f0, p0, q0, hg0, ht0, hv0, hd0, ⟨g1, t1, cs1, f1, p1, q1, hg1, ht1, hv1, hd1, ⟨g2, t2, cs2, f2, p2, q2, hg2, ht2, hv2, hd2, _, _⟩, _⟩, _⟩, _⟩ := h
  obtain rfl := Option.some.inj ((show Tryd.prog.globalNamed "internal/strconv.uint64pow10" = some 0 by kernel_rfl).symm.trans hg2)
  obtain rfl := Option.some.inj ((show (Tryd.prog.globals[0]?).map (·.type) = some 145 by kernel_rfl).symm.trans ht2)
  have hd : DataW.trod _ Tryd.prog W 0 _ false f2 145 cs2.toList = some (Lib.tabData .u64 Lib.pow10Tab, p2) := hd2
  have he := Lib.cells_of_tab Tryd.underlying145 Tryd.underlying71 (by kernel_rfl) (by kernel_rfl) hd
  unfold TabP Lib.TabIs
  rw [← he]
  exact hv2


set_option maxRecDepth 100000 in
theorem lifted (os : Os) (started : os.Started) (H : Type) (enc : TypeId × Value → H) :
    ReturnsInHanded {} Tryd.checked os 4 .any (fun w args => (Rows.fnRoomsSpec.pre enc Tryd.prog Tryd.f4 Rows.fnRoomsRow.domain false w args ∧ laidMetH Tryd.prog Rows.fnRoomsRow.laid w) ∧ sizedMet enc Tryd.prog Tryd.f4 (OpenSpec.ofChange Rows.fnRoomsSpec) false w args)
      (Rows.fnRoomsSpec.post enc Tryd.prog Tryd.f4 false true false false) := by
  refine handed_shaped (C := Tryd.checked) (X := fun w _ => laidMetH Tryd.prog Rows.fnRoomsRow.laid w) (fun _ _ _ hh h => h.of_heap hh) own started (by kernel_rfl) Tryd.func4
    (ChangeSpec.witness_shaped (enc := enc) (C := Tryd.checked) (os := os) (X := fun w _ => laidMetH Tryd.prog Rows.fnRoomsRow.laid w) false (World.laidAll Tryd.prog os Rows.fnRoomsRow.laid) #[.slice none 0 0, .slice none 0 0] 8 (World.laidAll_os _ _ _)
      (World.shaped_of_ZipB (by kernel_rfl) (by kernel_rfl)) (by kernel_rfl) (by kernel_rfl) (by kernel_rfl)
      (by rw [MakeChecks.laidMetH_plain _ _ _ (by kernel_rfl)]; exact laidMet_laidAll _ (by kernel_rfl) (by kernel_rfl))) ?_
  intro W base args ds gs before hval0 hW hcnd hL hsh
  have hval : ∀ (j : Nat) t v, Tryd.f4.params[j]? = some t → args[j]? = some v → Value.okWide Tryd.prog W .any base t v := hval0
  have hW' := hW
  have hlt0 : ∀ p ∈ before, p.block < W.heap.size := fun p hp => hW.lt p hp
  obtain ⟨p, q, hA0, hV, rfl, hfz, hnd⟩ := hW
  have hlt : ∀ x ∈ p, x.block < W.heap.size := fun x hx => hlt0 x (List.mem_append_left _ hx)
  have hA : DataW.TrodAll enc Tryd.prog W 0 (fun _ => true) true Tryd.f4.params.toList args.toList ds p := hA0
  rw [Tryd.params4] at hA hval
  obtain ⟨v0, vs0, d0, ds0, p0, q0, hargs, rfl, rfl, h0, r0⟩ := trodAll_cons hA
  obtain ⟨v1, vs1, d1, ds1, p1, q1, rfl, rfl, rfl, h1, r1⟩ := trodAll_cons r0
  obtain ⟨rfl, rfl, rfl⟩ := trodAll_nil r1
  obtain rfl : args = #[v0, v1] := by cases args; simp_all
  obtain ⟨rfl, rfl⟩ := trodVars_none hV
  obtain ⟨A_code, code, c_code, rfl, hlc_code, hmc_code, rd_code, ok_code⟩ := open_rows (α := UInt8) (n := 6) Tryd.underlying22 (by kernel_rfl) (by kernel_rfl) (hval 0 22 v0 rfl rfl) h0 (fun x hx => hlt x (by simp [hx]))
  have hm_code : code.length ≤ 9223372036854775807 := by have := Nat.le_trans hlc_code hmc_code; unfold maxLen at this; omega
  obtain ⟨A_more, more, c_more, rfl, hlc_more, hmc_more, rd_more, ok_more⟩ := open_rows (α := UInt8) (n := 6) Tryd.underlying22 (by kernel_rfl) (by kernel_rfl) (hval 1 22 v1 rfl rfl) h1 (fun x hx => hlt x (by simp [hx]))
  have hm_more : more.length ≤ 9223372036854775807 := by have := Nat.le_trans hlc_more hmc_more; unfold maxLen at this; omega
  refine (walk W A_code code c_code hm_code rd_code A_more more c_more hm_more rd_more (tabP hL) (MaxP.of hsh)).mono fun e W' ⟨he, hg⟩ => ?_
  subst he
  exact ⟨_, rfl, post_law (by kernel_rfl) (by rw [Tryd.params4]; exact plainTypes (by kernel_rfl)) rfl Tryd.underlying4 rfl ⟨rfl, rfl, rfl⟩ hW' hg⟩

theorem over : Rows.fnRoomsRow.holds Tryd.pinned (OpenSpec.ofChange Rows.fnRoomsSpec) :=
  OpenClaim.holds_of_wide 4 Tryd.f4 rfl rfl rfl rfl rfl rfl rfl ⟨rfl, rfl, rfl, rfl, rfl⟩ rfl rfl rfl rfl rfl (by kernel_rfl) Tryd.func4 (by kernel_rfl)
    (of_decide_eq_true (by kernel_rfl)) (by unfold Func.isWrapper; first | (rw [if_pos (by decide +kernel)]; kernel_rfl) | (rw [if_neg (by decide +kernel)]; exact ⟨rfl, rfl⟩))
    (fun os started H enc _ => lifted os started H enc)

/-- The statement. -/
theorem proved : Rows.FnRoomsCardSaid :=
  Claim7.holds_tied_plain_at .later [] [.data, .data, .data, .data, .pinned] true (true, "3f74357946ad71ac4e3b3dcfd73d670f3775017903c6844e4025e4c15451aab0") false
    over (fun _ h => by cases h) (by kernel_rfl) (fun _ h => by cases h) fnRooms_row_tie rfl ⟨rfl, rfl⟩ (by kernel_rfl) rfl
    (fun f fn hf hfn => by
      obtain rfl : f = 4 := Option.some.inj ((show Tryd.prog.funcNamed "loop.example/g00939/laws.FnRooms" = some 4 by kernel_rfl).symm.trans hf) |>.symm
      obtain rfl : fn = Tryd.f4 := (Option.some.inj (Tryd.func4.symm.trans hfn)).symm
      exact ⟨by kernel_rfl, fun j t ht => by
        rw [Tryd.params4] at ht
        have hm : t ∈ [22, 22] := by simpa using Array.mem_of_getElem? ht
        have hall : ([22, 22].all fun u => !Tryd.prog.wantsStandIn u) = true := by kernel_rfl
        exact (show Tryd.prog.wantsStandIn t = false by simpa using List.all_eq_true.1 hall t hm)⟩)
    (by kernel_rfl)
#print axioms proved
end Go.Proofs.YtgbgmmdpldekbaaDoor.lawFnRooms
