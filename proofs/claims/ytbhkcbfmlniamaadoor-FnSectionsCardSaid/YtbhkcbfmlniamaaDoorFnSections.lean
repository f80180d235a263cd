/-
  The law FnSections answers true at every input, and its arguments read afterwards as they read before.
-/
import Derived.Test.YtbhkcbfmlniamaaDoorTie
import Derived.Test.YtbhkcbfmlniamaaDoorCards
import Derived.ProofKit
import Derived.LaidMore
import Derived.Lay
import Derived.SevenTiedAt
import Derived.Stop.Joined
import Derived.Test.YtbhkcbfmlniamaaDoorShape
import Derived.Test.YtbhkcbfmlniamaaDoorSnQ
import Derived.Test.YtbhkcbfmlniamaaDoorLaw
import Derived.Test.YtbhkcbfmlniamaaDoorTell
namespace Go.Proofs.YtbhkcbfmlniamaaDoor.lawFnSections
open Go.ChangeShapes Go.WideShapes Go.ChangeAt Go.RowKit
set_option linter.unusedVariables false

theorem own : ownKnob Tryd.prog.godebug = none := by kernel_rfl

-- params: rows:code:UInt8 rows:more:UInt8
-- import: SnQ
-- import: Law
-- import: Tell
set_option maxHeartbeats 8000000 in
set_option maxRecDepth 100000 in
theorem walk (w : World) (A_code : Option Addr) (code : List UInt8) (c_code : Nat) (hm_code : code.length ≤ 9223372036854775807) (rd_code : Rd w A_code code) (A_more : Option Addr) (more : List UInt8) (c_more : Nat) (hm_more : more.length ≤ 9223372036854775807) (rd_more : Rd w A_more more) (hTab : TabP w) (hM : MaxP w) :
    Calls Tryd.prog 3 #[.slice A_code code.length c_code, .slice A_more more.length c_more] w fun e w' => e = .returned (.bool true) ∧ Gw w w' := by
  have HT := Lib.hid hTab
  have HM := Lib.hid hM
  clear hTab hM
  go_enter Tryd.func3, Tryd.ntmps3
  go_wp2_with fail
  refine (l_big _ _ _ _ _ _ _ hm_code hm_more).mono ?_
  rintro _ w1 (⟨hp, rfl, hb⟩ | ⟨hp, rfl, hb⟩)
  · go_wp2_with fail
    go_ret
    exact ⟨rfl, hb⟩
  clear hp
  go_wp2_with fail
  refine (d_MembersOf _ _ _ _ hm_code (rd_code.gw hb)).mono ?_
  rintro _ w2 ⟨l, D, cl, p, rfl, hp1, hB, hll, own, hb2⟩
  have G2 : Gw w w2 := hb.trans hb2
  have rdl := own_rd (α := Sec) own
  have hcap := own_cap2 own
  have hl : l.length ≤ 1048576 := by omega
  have hz := hB.size
  clear hb hb2 own rd_code hll
  obtain ⟨m, ok, MI, MS, hml, F⟩ : ∃ (m : List Int) (o : Bool), (∀ W A c, Rd W A l → l.length ≤ c → Calls Tryd.prog 8 #[.slice A l.length c, .int .i64 p] W fun e w' => ∃ A c, e = .returned (.tuple #[.slice A m.length c, .bool o]) ∧ w'.ownsRow W.heap.size 3 1 (.slice A m.length c) m.length (flat m) ∧ Gw W w') ∧
      (∀ W A c, Rd W A l → l.length ≤ c → Calls Tryd.prog 9 #[.slice A l.length c, .int .i64 p] W fun e w' => ∃ A c, e = .returned (.tuple #[.slice A m.length c, .bool o]) ∧ w'.ownsRow W.heap.size 3 1 (.slice A m.length c) m.length (flat m) ∧ Gw W w') ∧ m.length ≤ 1048576 ∧ Hid (o = true → HasP l p ∧ (∃ x, l[p.toNat]? = some x ∧ (m.length : Int) = x.2.1) ∧ ∀ q ∈ m, (-9223372036854775808 ≤ q ∧ q ≤ 9223372036854775807) ∧ sectF l q = (p, true)) :=
    ⟨(membF l p).1, (membF l p).2, fun W A c h hc => i_MembersOf A c l p W hl hz h hc, fun W A c h hc => s_MembersOf A c l p W hl hz h hc, membF_len l p, fun h => memb_facts (Prod.ext rfl h)⟩
  go_wp2_with fail
  refine (MI _ _ _ rdl hcap).mono ?_
  rintro _ w3 ⟨A3, c3, rfl, own3, hb3⟩
  have G3 := G2.trans hb3
  have rdl := rdl.gw hb3
  dsimp only
  go_wp2_with fail
  refine (MS _ _ _ rdl hcap).mono ?_
  rintro _ w4 ⟨A4, c4, rfl, own4, hb4⟩
  have G4 := G3.trans hb4
  have rdl := rdl.gw hb4
  have rda := (own_rd own3).gw hb4
  have rdb := own_rd own4
  clear MI MS own3 own4 G2 G3 hb3 hb4
  dsimp only
  cases ok
  all_goals
    go_wp2_with fail
    refine (l_sameInts _ _ _ _ _ _ hml rda rdb).mono ?_
    rintro _ w5 ⟨rfl, hb5⟩
    have G5 := G4.trans hb5
    have rdl5 := rdl.gw hb5
    have rdb5 := rdb.gw hb5
    dsimp only
  · repeat (first | (go_at_K; go_step; exact sn7 hm_more (rd_more.gw G5) HT HM G5) | go_step)
  obtain ⟨hP, ⟨x, hx, hxl⟩, hmem⟩ := F.out (by trivial)
  obtain ⟨i, rfl⟩ : ∃ i : Nat, p = i := ⟨p.toNat, by have := hP.2.1; omega⟩
  rw [Int.toNat_natCast] at hx
  have hil : i < l.length := (List.getElem?_eq_some_iff.1 hx).1
  have Hx := Lib.hid hx
  have Hmem := Lib.hid hmem
  clear F hP hx hmem rdl rda rdb G4 hb5
  go_wp2_with fail
  go_loopw [12, 13, 14, 82] (fun _ _ _ q wr => ∃ k : Nat, q = .int .i64 k ∧ k ≤ m.length ∧ Gw w5 wr) (fun _ _ _ q _ => m.length - (intOf q).toNat)
  case atStart => exact ⟨0, by go_num, Nat.zero_le _, Gw.refl _⟩
  case round =>
    obtain ⟨k, rfl, hk, hg⟩ := hrel
    by_cases hlt : k < m.length
    · obtain ⟨q, hq⟩ := get_of_lt hlt
      obtain ⟨hq1, hq2⟩ := Hmem.out q (mem_of_get hq)
      obtain ⟨b, off, he, hb, c0⟩ := (rdb5.gw hg).get1 hq
      subst he
      have T := fun W A c h hc => i_SectionOf A c l q W hl hz h hc hq1
      rw [hq2] at T
      have H := Lib.hid T
      have q1 : ((i : Int) != (i : Int)) = false := by simp
      clear T hq hq2
      go_wp2_with fail
      refine (H.out _ _ _ (rdl5.gw hg) hcap).mono ?_
      rintro _ w6 ⟨rfl, hb6⟩
      dsimp only
      go_wp2_with fail
      go_roundw
      case rel => exact ⟨k + 1, by go_num, by omega, hg.trans hb6⟩
      case measure => simp [intOf]; omega
    · obtain ⟨b, off, he, hb, c0, c1, c2⟩ := (rdl5.gw hg).getS Hx.out
      subst he
      have hiz : (0 : Int) ≤ (i : Int) := by omega
      have hilz : (i : Int) < (l.length : Int) := by omega
      have q1 : ((m.length : Int) != x.2.1) = false := by simp [hxl]
      have G6 := G5.trans hg
      repeat (first | (go_at_K; go_step; exact sn7 hm_more (rd_more.gw G6) HT HM G6) | go_step)


theorem tabP {W : World} (h : laidMetH Tryd.prog Rows.fnSectionsRow.laid W) : TabP W := by
  rw [MakeChecks.laidMetH_plain _ _ _ (by kernel_rfl)] at h
  obtain ⟨ps, ⟨g0, t0, cs0, f0, p0, q0, hg0, ht0, hv0, hd0, ⟨g1, t1, cs1, f1, p1, q1, hg1, ht1, hv1, hd1, ⟨g2, t2, cs2, f2, p2, q2, hg2, ht2, hv2, hd2, _, _⟩, _⟩, _⟩, _⟩ := h
  obtain rfl := Option.some.inj ((show Tryd.prog.globalNamed "internal/strconv.uint64pow10" = some 1 by kernel_rfl).symm.trans hg2)
  obtain rfl := Option.some.inj ((show (Tryd.prog.globals[1]?).map (·.type) = some 112 by kernel_rfl).symm.trans ht2)
  have hd : DataW.trod _ Tryd.prog W 0 _ false f2 112 cs2.toList = some (Lib.tabData .u64 Lib.pow10Tab, p2) := hd2
  have he := Lib.cells_of_tab Tryd.underlying112 Tryd.underlying54 (by kernel_rfl) (by kernel_rfl) hd
  unfold TabP Lib.TabIs
  rw [← he]
  exact hv2


set_option maxRecDepth 100000 in
theorem lifted (os : Os) (started : os.Started) (H : Type) (enc : TypeId × Value → H) :
    ReturnsInHanded {} Tryd.checked os 3 .any (fun w args => (Rows.fnSectionsSpec.pre enc Tryd.prog Tryd.f3 Rows.fnSectionsRow.domain false w args ∧ laidMetH Tryd.prog Rows.fnSectionsRow.laid w) ∧ sizedMet enc Tryd.prog Tryd.f3 (OpenSpec.ofChange Rows.fnSectionsSpec) false w args)
      (Rows.fnSectionsSpec.post enc Tryd.prog Tryd.f3 false true false false) := by
  refine handed_shaped (C := Tryd.checked) (X := fun w _ => laidMetH Tryd.prog Rows.fnSectionsRow.laid w) (fun _ _ _ hh h => h.of_heap hh) own started (by kernel_rfl) Tryd.func3
    (ChangeSpec.witness_shaped (enc := enc) (C := Tryd.checked) (os := os) (X := fun w _ => laidMetH Tryd.prog Rows.fnSectionsRow.laid w) false (World.laidAll Tryd.prog os Rows.fnSectionsRow.laid) #[.slice none 0 0, .slice none 0 0] 8 (World.laidAll_os _ _ _)
      (World.shaped_of_ZipB (by kernel_rfl) (by kernel_rfl)) (by kernel_rfl) (by kernel_rfl) (by kernel_rfl)
      (by rw [MakeChecks.laidMetH_plain _ _ _ (by kernel_rfl)]; exact laidMet_laidAll _ (by kernel_rfl) (by kernel_rfl))) ?_
  intro W base args ds gs before hval0 hW hcnd hL hsh
  have hval : ∀ (j : Nat) t v, Tryd.f3.params[j]? = some t → args[j]? = some v → Value.okWide Tryd.prog W .any base t v := hval0
  have hW' := hW
  have hlt0 : ∀ p ∈ before, p.block < W.heap.size := fun p hp => hW.lt p hp
  obtain ⟨p, q, hA0, hV, rfl, hfz, hnd⟩ := hW
  have hlt : ∀ x ∈ p, x.block < W.heap.size := fun x hx => hlt0 x (List.mem_append_left _ hx)
  have hA : DataW.TrodAll enc Tryd.prog W 0 (fun _ => true) true Tryd.f3.params.toList args.toList ds p := hA0
  rw [Tryd.params3] at hA hval
  obtain ⟨v0, vs0, d0, ds0, p0, q0, hargs, rfl, rfl, h0, r0⟩ := trodAll_cons hA
  obtain ⟨v1, vs1, d1, ds1, p1, q1, rfl, rfl, rfl, h1, r1⟩ := trodAll_cons r0
  obtain ⟨rfl, rfl, rfl⟩ := trodAll_nil r1
  obtain rfl : args = #[v0, v1] := by cases args; simp_all
  obtain ⟨rfl, rfl⟩ := trodVars_none hV
  obtain ⟨A_code, code, c_code, rfl, hlc_code, hmc_code, rd_code, ok_code⟩ := open_rows (α := UInt8) (n := 6) Tryd.underlying22 (by kernel_rfl) (by kernel_rfl) (hval 0 22 v0 rfl rfl) h0 (fun x hx => hlt x (by simp [hx]))
  have hm_code : code.length ≤ 9223372036854775807 := by have := Nat.le_trans hlc_code hmc_code; unfold maxLen at this; omega
  obtain ⟨A_more, more, c_more, rfl, hlc_more, hmc_more, rd_more, ok_more⟩ := open_rows (α := UInt8) (n := 6) Tryd.underlying22 (by kernel_rfl) (by kernel_rfl) (hval 1 22 v1 rfl rfl) h1 (fun x hx => hlt x (by simp [hx]))
  have hm_more : more.length ≤ 9223372036854775807 := by have := Nat.le_trans hlc_more hmc_more; unfold maxLen at this; omega
  refine (walk W A_code code c_code hm_code rd_code A_more more c_more hm_more rd_more (tabP hL) (MaxP.of hsh)).mono fun e W' ⟨he, hg⟩ => ?_
  subst he
  exact ⟨_, rfl, post_law (by kernel_rfl) (by rw [Tryd.params3]; exact plainTypes (by kernel_rfl)) rfl Tryd.underlying4 rfl ⟨rfl, rfl, rfl⟩ hW' hg⟩

theorem over : Rows.fnSectionsRow.holds Tryd.pinned (OpenSpec.ofChange Rows.fnSectionsSpec) :=
  OpenClaim.holds_of_wide 3 Tryd.f3 rfl rfl rfl rfl rfl rfl rfl ⟨rfl, rfl, rfl, rfl, rfl⟩ rfl rfl rfl rfl rfl (by kernel_rfl) Tryd.func3 (by kernel_rfl)
    (of_decide_eq_true (by kernel_rfl)) (by unfold Func.isWrapper; first | (rw [if_pos (by decide +kernel)]; kernel_rfl) | (rw [if_neg (by decide +kernel)]; exact ⟨rfl, rfl⟩))
    (fun os started H enc _ => lifted os started H enc)

/-- The statement. -/
theorem proved : Rows.FnSectionsCardSaid :=
  Claim7.holds_tied_plain_at .later [] [.data, .data, .data, .data, .pinned] true (true, "7ff3c8d13125d5653b342965040128eabd9ccd04705181c9ac9e310ff5d484c3") false
    over (fun _ h => by cases h) (by kernel_rfl) (fun _ h => by cases h) fnSections_row_tie rfl ⟨rfl, rfl⟩ (by kernel_rfl) rfl
    (fun f fn hf hfn => by
      obtain rfl : f = 3 := Option.some.inj ((show Tryd.prog.funcNamed "loop.example/g00939/laws.FnSections" = some 3 by kernel_rfl).symm.trans hf) |>.symm
      obtain rfl : fn = Tryd.f3 := (Option.some.inj (Tryd.func3.symm.trans hfn)).symm
      exact ⟨by kernel_rfl, fun j t ht => by
        rw [Tryd.params3] at ht
        have hm : t ∈ [22, 22] := by simpa using Array.mem_of_getElem? ht
        have hall : ([22, 22].all fun u => !Tryd.prog.wantsStandIn u) = true := by kernel_rfl
        exact (show Tryd.prog.wantsStandIn t = false by simpa using List.all_eq_true.1 hall t hm)⟩)
    (by kernel_rfl)
#print axioms proved
end Go.Proofs.YtbhkcbfmlniamaaDoor.lawFnSections
