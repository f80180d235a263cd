/-
  The law FnBooked answers true at every input, and its arguments read afterwards as they read before.
-/
import Derived.Test.YtgbgmmdpldekbaaDoorTie
import Derived.Test.YtgbgmmdpldekbaaDoorCards
import Derived.ProofKit
import Derived.LaidMore
import Derived.Lay
import Derived.SevenTiedAt
import Derived.Stop.Joined
import Derived.Test.YtgbgmmdpldekbaaDoorFkA
import Derived.Test.YtgbgmmdpldekbaaDoorLaw
import Derived.Test.YtgbgmmdpldekbaaDoorTell
namespace Go.Proofs.YtgbgmmdpldekbaaDoor.lawFnBooked
open Go.ChangeShapes Go.WideShapes Go.ChangeAt Go.RowKit
set_option linter.unusedVariables false

theorem own : ownKnob Tryd.prog.godebug = none := by kernel_rfl

-- params: rows:code:UInt8 rows:more:UInt8
-- import: FkA
-- import: Law
-- import: Tell
set_option maxHeartbeats 8000000 in
set_option maxRecDepth 100000 in
theorem walk (w : World) (A_code : Option Addr) (code : List UInt8) (c_code : Nat) (hm_code : code.length ≤ 9223372036854775807) (rd_code : Rd w A_code code) (A_more : Option Addr) (more : List UInt8) (c_more : Nat) (hm_more : more.length ≤ 9223372036854775807) (rd_more : Rd w A_more more) (hTab : TabP w) :
    Calls Tryd.prog 3 #[.slice A_code code.length c_code, .slice A_more more.length c_more] w fun e w' => e = .returned (.bool true) ∧ Gw w w' := by
  have HT := Lib.hid hTab
  clear hTab
  have hmc := Lib.hid hm_code
  have hmm := Lib.hid hm_more
  clear hm_code hm_more
  go_enter Tryd.func3, Tryd.ntmps3
  by_cases hsz : wrap64 ((code.length : Int) + (more.length : Int)) ≤ 1048576
  case neg =>
    go_wp2_with fail
    go_ret
    exact ⟨rfl, Gw.refl _⟩
  go_wp2_with fail
  refine (d_IsSchedule _ _ _ _ hmc.out rd_code).mono ?_
  rintro _ w2 ⟨W, AW, cw, L, AL, cl, S, AS, cs, rfl, -, hlW, -, hlL, -, hlS, ownW, ownL, ownS, G2⟩
  have rdW := own_rd (α := W3) ownW
  have rdL := own_rd (α := R2) ownL
  have rdS := own_rd (α := B4) ownS
  have hcw := own_cap2 ownW
  have hcl := own_cap2 ownL
  have hcs := own_cap2 ownS
  have hlW' : W.length ≤ 1048576 := by omega
  have hlL' : L.length ≤ 1048576 := by omega
  have hlS' : S.length ≤ 1048576 := by omega
  clear hsz ownW ownL ownS rd_code hlW hlL hlS
  obtain ⟨is, ok, SI, SS, FC⟩ : ∃ (is ok : Bool), (∀ u A a B b D d, Rd u A W → Rd u B L → Rd u D S → W.length ≤ a → L.length ≤ b → S.length ≤ d → Calls Tryd.prog 6 #[.slice A W.length a, .slice B L.length b, .slice D S.length d] u fun e w' => e = .returned (.tuple #[.bool is, .bool ok]) ∧ Gw u w') ∧
      (∀ u A a B b D d, Rd u A W → Rd u B L → Rd u D S → W.length ≤ a → L.length ≤ b → S.length ≤ d → Calls Tryd.prog 7 #[.slice A W.length a, .slice B L.length b, .slice D S.length d] u fun e w' => e = .returned (.tuple #[.bool is, .bool ok]) ∧ Gw u w') ∧ Hid (ok = true → is = true → WinsP W ∧ RehP L ∧ BookP S ∧ SchedP W L S) :=
    ⟨(schedF W L S).1, (schedF W L S).2, fun u A a B b D d h1 h2 h3 h4 h5 h6 => i_IsSchedule A a W B b L D d S u hlW' h1 h4 hlL' h2 h5 hlS' h3 h6, fun u A a B b D d h1 h2 h3 h4 h5 h6 => s_IsSchedule A a W B b L D d S u hlW' h1 h4 hlL' h2 h5 hlS' h3 h6, fun h1 h2 => sched_facts h1 h2⟩
  go_wp2_with fail
  refine (SI _ _ _ _ _ _ _ rdW rdL rdS hcw hcl hcs).mono ?_
  rintro _ w3 ⟨rfl, hb3⟩
  have G3 := G2.trans hb3
  have rdW := rdW.gw hb3
  have rdL := rdL.gw hb3
  have rdS := rdS.gw hb3
  dsimp only
  go_wp2_with fail
  refine (SS _ _ _ _ _ _ _ rdW rdL rdS hcw hcl hcs).mono ?_
  rintro _ w4 ⟨rfl, hb4⟩
  have G4 := G3.trans hb4
  have rdW := rdW.gw hb4
  have rdL := rdL.gw hb4
  have rdS := rdS.gw hb4
  clear SI SS G2 G3 hb3 hb4
  dsimp only
  go_wp2_with fail
  refine (d_BookedText _ _ _ _ hmm.out (rd_more.gw G4)).mono ?_
  rintro _ w5 ⟨a, AA, ca, rfl, -, hla, owna, hb5⟩
  have G5 := G4.trans hb5
  have rda := own_rd (α := B4) owna
  have hca := own_cap2 owna
  have rdW := rdW.gw hb5
  have rdL := rdL.gw hb5
  have rdS := rdS.gw hb5
  have hla' : a.length ≤ 1048576 := by omega
  clear owna hb5 G4 hla
  obtain ⟨txt, fin, one, hb1, hb2, hone, FB⟩ := booked_same a
  have T1 := fun u A c (h : Rd u A a) hc ht => i_BookedText A c a u hla' h hc ht
  have T2 := fun u A c (h : Rd u A a) hc ht => s_BookedText A c a u hla' h hc ht
  have T3 := fun u A c (h : Rd u A a) hc => i_ScheduleEnd A c a u hla' h hc
  have T4 := fun u A c (h : Rd u A a) hc => s_ScheduleEnd A c a u hla' h hc
  rw [hb1] at T1 T2
  rw [hb2] at T3 T4
  have T1 := Lib.hid T1
  have T2 := Lib.hid T2
  have T3 := Lib.hid T3
  have T4 := Lib.hid T4
  have FB := Lib.hid FB
  have Hone := Lib.hid hone
  clear hb1 hb2 hone
  go_wp2_with fail
  refine (T1.out _ _ _ rda hca (HT.out.gw G5)).mono ?_
  rintro _ w6 ⟨rfl, hb6⟩
  have G6 := G5.trans hb6
  have rda := rda.gw hb6
  have rdW := rdW.gw hb6
  have rdL := rdL.gw hb6
  have rdS := rdS.gw hb6
  dsimp only
  go_wp2_with fail
  refine (T2.out _ _ _ rda hca (HT.out.gw G6)).mono ?_
  rintro _ w7 ⟨rfl, hb7⟩
  have G7 := G6.trans hb7
  have rda := rda.gw hb7
  have rdW := rdW.gw hb7
  have rdL := rdL.gw hb7
  have rdS := rdS.gw hb7
  dsimp only
  go_wp2_with fail
  refine (T3.out _ _ _ rda hca).mono ?_
  rintro _ w8 ⟨rfl, hb8⟩
  have G8 := G7.trans hb8
  have rda := rda.gw hb8
  have rdW := rdW.gw hb8
  have rdL := rdL.gw hb8
  have rdS := rdS.gw hb8
  dsimp only
  go_wp2_with fail
  refine (T4.out _ _ _ rda hca).mono ?_
  rintro _ w9 ⟨rfl, hb9⟩
  have G9 := G8.trans hb9
  have rda := rda.gw hb9
  have rdW := rdW.gw hb9
  have rdL := rdL.gw hb9
  have rdS := rdS.gw hb9
  clear T1 T2 T3 T4 G5 G6 G7 G8 hb6 hb7 hb8 hb9 HT
  dsimp only
  go_wp2_with fail
  refine (d_WhoRehearses _ _ _ _ hmm.out (rd_more.gw G9)).mono ?_
  rintro _ w10 ⟨b, AB, cb, pl, hr, rfl, -, hlb, ownb, hb10⟩
  have G10 := G9.trans hb10
  have rdb := own_rd (α := B4) ownb
  have hcb := own_cap2 ownb
  have rda := rda.gw hb10
  have rdW := rdW.gw hb10
  have rdL := rdL.gw hb10
  have rdS := rdS.gw hb10
  have hlb' : b.length ≤ 1048576 := by omega
  clear ownb hb10 G9 hlb
  obtain ⟨p5, five, WI, WS⟩ : ∃ (n : Int) (o : Bool), (∀ u A c, Rd u A b → b.length ≤ c → Calls Tryd.prog 14 #[.slice A b.length c, .int .i64 pl, .int .i64 hr] u fun e w' => e = .returned (.tuple #[.int .i64 n, .bool o]) ∧ Gw u w') ∧
      (∀ u A c, Rd u A b → b.length ≤ c → Calls Tryd.prog 15 #[.slice A b.length c, .int .i64 pl, .int .i64 hr] u fun e w' => e = .returned (.tuple #[.int .i64 n, .bool o]) ∧ Gw u w') :=
    ⟨(whoF b pl hr).1, (whoF b pl hr).2, fun u A c h hc => i_WhoRehearses A c b pl hr u hlb' h hc, fun u A c h hc => s_WhoRehearses A c b pl hr u hlb' h hc⟩
  go_wp2_with fail
  refine (WI _ _ _ rdb hcb).mono ?_
  rintro _ w11 ⟨rfl, hb11⟩
  have G11 := G10.trans hb11
  dsimp only
  go_wp2_with fail
  refine (WS _ _ _ (rdb.gw hb11) hcb).mono ?_
  rintro _ w12 ⟨rfl, hb12⟩
  have G12 := G11.trans hb12
  have hbb := hb11.trans hb12
  have rda := rda.gw hbb
  have rdW := rdW.gw hbb
  have rdL := rdL.gw hbb
  have rdS := rdS.gw hbb
  clear WI WS hb11 hb12 hbb G10 G11 rdb
  dsimp only
  go_wp2_with fail
  refine (d_SectionHours _ _ _ _ hmm.out (rd_more.gw G12)).mono ?_
  rintro _ w13 ⟨c, AC, cc, sec, rfl, -, hlc, ownc, hb13⟩
  have G13 := G12.trans hb13
  have rdc := own_rd (α := B4) ownc
  have hcc := own_cap2 ownc
  have rda := rda.gw hb13
  have rdW := rdW.gw hb13
  have rdL := rdL.gw hb13
  have rdS := rdS.gw hb13
  have hlc' : c.length ≤ 1048576 := by omega
  clear ownc hb13 G12 hlc
  obtain ⟨hours, seven, HI, HS, FA⟩ : ∃ (n : Int) (o : Bool), (∀ u A d, Rd u A c → c.length ≤ d → Calls Tryd.prog 17 #[.slice A c.length d, .int .i64 sec] u fun e w' => e = .returned (.tuple #[.int .i64 n, .bool o]) ∧ Gw u w') ∧
      (∀ u A d, Rd u A c → c.length ≤ d → Calls Tryd.prog 18 #[.slice A c.length d, .int .i64 sec] u fun e w' => e = .returned (.tuple #[.int .i64 n, .bool o]) ∧ Gw u w') ∧ Hid (o = true → BookP c ∧ n = sumH sec c) :=
    ⟨(secHours c sec).1, (secHours c sec).2, fun u A d h hc => i_SectionHours A d c sec u hlc' h hc, fun u A d h hc => s_SectionHours A d c sec u hlc' h hc, fun h => secH_facts h⟩
  go_wp2_with fail
  refine (HI _ _ _ rdc hcc).mono ?_
  rintro _ w14 ⟨rfl, hb14⟩
  have G14 := G13.trans hb14
  have rdc := rdc.gw hb14
  dsimp only
  go_wp2_with fail
  refine (HS _ _ _ rdc hcc).mono ?_
  rintro _ w15 ⟨rfl, hb15⟩
  have G15 := G14.trans hb15
  have rdc := rdc.gw hb15
  have hbb := hb14.trans hb15
  have rda := rda.gw hbb
  have rdW := rdW.gw hbb
  have rdL := rdL.gw hbb
  have rdS := rdS.gw hbb
  clear HI HS hb14 hb15 hbb G13 G14
  dsimp only
  go_wp2_with fail
  refine (i_AreBooked _ _ _ _ hla' rda hca).mono ?_
  rintro e w16 hh
  have hh : e = .returned (.bool one) ∧ Gw w15 w16 := by
    rcases hh with ⟨hp, he, hg⟩ | ⟨hp, he, hg⟩
    · exact ⟨by rw [he, Hone.out.2 hp], hg⟩
    · refine ⟨?_, hg⟩
      cases one with
      | true => exact absurd (Hone.out.1 rfl) hp
      | false => exact he
  obtain ⟨rfl, hb16⟩ := hh
  have G16 := G15.trans hb16
  have rdc := rdc.gw hb16
  have rda := rda.gw hb16
  have rdW := rdW.gw hb16
  have rdL := rdL.gw hb16
  have rdS := rdS.gw hb16
  clear Hone hb16 G15
  dsimp only
  repeat (first | (go_at_K; go_step; exact bk17 hlW' hlL' hlS' hcs rdW rdL rdS FC hla' hca rda FB hlc' hcc rdc FA G16) | go_step)


theorem tabP {W : World} (h : laidMetH Tryd.prog Rows.fnBookedRow.laid W) : TabP W := by
  rw [MakeChecks.laidMetH_plain _ _ _ (by kernel_rfl)] at h
  obtain ⟨ps, ⟨g0, t0, cs0, f0, p0, q0, hg0, ht0, hv0, hd0, ⟨g1, t1, cs1, f1, p1, q1, hg1, ht1, hv1, hd1, ⟨g2, t2, cs2, f2, p2, q2, hg2, ht2, hv2, hd2, _, _⟩, _⟩, _⟩, _⟩ := h
  obtain rfl := Option.some.inj ((show Tryd.prog.globalNamed "internal/strconv.uint64pow10" = some 0 by kernel_rfl).symm.trans hg2)
  obtain rfl := Option.some.inj ((show (Tryd.prog.globals[0]?).map (·.type) = some 145 by kernel_rfl).symm.trans ht2)
  have hd : DataW.trod _ Tryd.prog W 0 _ false f2 145 cs2.toList = some (Lib.tabData .u64 Lib.pow10Tab, p2) := hd2
  have he := Lib.cells_of_tab Tryd.underlying145 Tryd.underlying71 (by kernel_rfl) (by kernel_rfl) hd
  unfold TabP Lib.TabIs
  rw [← he]
  exact hv2


set_option maxRecDepth 100000 in
theorem lifted (os : Os) (started : os.Started) (H : Type) (enc : TypeId × Value → H) :
    ReturnsInHanded {} Tryd.checked os 3 .any (fun w args => (Rows.fnBookedSpec.pre enc Tryd.prog Tryd.f3 Rows.fnBookedRow.domain false w args ∧ laidMetH Tryd.prog Rows.fnBookedRow.laid w) ∧ sizedMet enc Tryd.prog Tryd.f3 (OpenSpec.ofChange Rows.fnBookedSpec) false w args)
      (Rows.fnBookedSpec.post enc Tryd.prog Tryd.f3 false true false false) := by
  refine returnsInHanded_of_change_and (C := Tryd.checked) (X := fun w _ => laidMetH Tryd.prog Rows.fnBookedRow.laid w) (fun _ _ _ hh h => h.of_heap hh) own started (by kernel_rfl) Tryd.func3
    (ChangeSpec.witness_shaped (enc := enc) (C := Tryd.checked) (os := os) (X := fun w _ => laidMetH Tryd.prog Rows.fnBookedRow.laid w) false (World.laidAll Tryd.prog os Rows.fnBookedRow.laid) #[.slice none 0 0, .slice none 0 0] 8 (World.laidAll_os _ _ _)
      (World.shaped_of_ZipB (by kernel_rfl) (by kernel_rfl)) (by kernel_rfl) (by kernel_rfl) (by kernel_rfl)
      (by rw [MakeChecks.laidMetH_plain _ _ _ (by kernel_rfl)]; exact laidMet_laidAll _ (by kernel_rfl) (by kernel_rfl))) ?_
  intro W base args ds gs before hval0 hW hcnd _ hL _
  have hval : ∀ (j : Nat) t v, Tryd.f3.params[j]? = some t → args[j]? = some v → Value.okWide Tryd.prog W .any base t v := hval0
  have hW' := hW
  have hlt0 : ∀ p ∈ before, p.block < W.heap.size := fun p hp => hW.lt p hp
  obtain ⟨p, q, hA0, hV, rfl, hfz, hnd⟩ := hW
  have hlt : ∀ x ∈ p, x.block < W.heap.size := fun x hx => hlt0 x (List.mem_append_left _ hx)
  have hA : DataW.TrodAll enc Tryd.prog W 0 (fun _ => true) true Tryd.f3.params.toList args.toList ds p := hA0
  rw [Tryd.params3] at hA hval
  obtain ⟨v0, vs0, d0, ds0, p0, q0, hargs, rfl, rfl, h0, r0⟩ := trodAll_cons hA
  obtain ⟨v1, vs1, d1, ds1, p1, q1, rfl, rfl, rfl, h1, r1⟩ := trodAll_cons r0
  obtain ⟨rfl, rfl, rfl⟩ := trodAll_nil r1
  obtain rfl : args = #[v0, v1] := by cases args; simp_all
  obtain ⟨rfl, rfl⟩ := trodVars_none hV
  obtain ⟨A_code, code, c_code, rfl, hlc_code, hmc_code, rd_code, ok_code⟩ := open_rows (α := UInt8) (n := 6) Tryd.underlying22 (by kernel_rfl) (by kernel_rfl) (hval 0 22 v0 rfl rfl) h0 (fun x hx => hlt x (by simp [hx]))
  have hm_code : code.length ≤ 9223372036854775807 := by have := Nat.le_trans hlc_code hmc_code; unfold maxLen at this; omega
  obtain ⟨A_more, more, c_more, rfl, hlc_more, hmc_more, rd_more, ok_more⟩ := open_rows (α := UInt8) (n := 6) Tryd.underlying22 (by kernel_rfl) (by kernel_rfl) (hval 1 22 v1 rfl rfl) h1 (fun x hx => hlt x (by simp [hx]))
  have hm_more : more.length ≤ 9223372036854775807 := by have := Nat.le_trans hlc_more hmc_more; unfold maxLen at this; omega
  refine (walk W A_code code c_code hm_code rd_code A_more more c_more hm_more rd_more (tabP hL)).mono fun e W' ⟨he, hg⟩ => ?_
  subst he
  exact ⟨_, rfl, post_law (by kernel_rfl) (by rw [Tryd.params3]; exact plainTypes (by kernel_rfl)) rfl Tryd.underlying4 rfl ⟨rfl, rfl, rfl⟩ hW' hg⟩

theorem over : Rows.fnBookedRow.holds Tryd.pinned (OpenSpec.ofChange Rows.fnBookedSpec) :=
  OpenClaim.holds_of_wide 3 Tryd.f3 rfl rfl rfl rfl rfl rfl rfl ⟨rfl, rfl, rfl, rfl, rfl⟩ rfl rfl rfl rfl rfl (by kernel_rfl) Tryd.func3 (by kernel_rfl)
    (of_decide_eq_true (by kernel_rfl)) (by unfold Func.isWrapper; first | (rw [if_pos (by decide +kernel)]; kernel_rfl) | (rw [if_neg (by decide +kernel)]; exact ⟨rfl, rfl⟩))
    (fun os started H enc _ => lifted os started H enc)

/-- The statement. -/
theorem proved : Rows.FnBookedCardSaid :=
  Claim7.holds_tied_plain_at .later [] [.data, .data, .data] true (true, "3f74357946ad71ac4e3b3dcfd73d670f3775017903c6844e4025e4c15451aab0") false
    over (fun _ h => by cases h) (by kernel_rfl) (fun _ h => by cases h) fnBooked_row_tie rfl ⟨rfl, rfl⟩ (by kernel_rfl) rfl
    (fun f fn hf hfn => by
      obtain rfl : f = 3 := Option.some.inj ((show Tryd.prog.funcNamed "loop.example/g00939/laws.FnBooked" = some 3 by kernel_rfl).symm.trans hf) |>.symm
      obtain rfl : fn = Tryd.f3 := (Option.some.inj (Tryd.func3.symm.trans hfn)).symm
      exact ⟨by kernel_rfl, fun j t ht => by
        rw [Tryd.params3] at ht
        have hm : t ∈ [22, 22] := by simpa using Array.mem_of_getElem? ht
        have hall : ([22, 22].all fun u => !Tryd.prog.wantsStandIn u) = true := by kernel_rfl
        exact (show Tryd.prog.wantsStandIn t = false by simpa using List.all_eq_true.1 hall t hm)⟩)
    (by kernel_rfl)
#print axioms proved
end Go.Proofs.YtgbgmmdpldekbaaDoor.lawFnBooked
