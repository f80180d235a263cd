/-
  The law FnSpeeds answers true at every input, and its arguments read afterwards as they read before.
-/
import Derived.Test.YthokcddabgojgaaRows
import Derived.Test.YthokcddabgojgaaFpN
import Derived.Test.YthokcddabgojgaaLaw
import Derived.Test.YthokcddabgojgaaTell
namespace Go.Proofs.Ythokcddabgojgaa.lawFnSpeeds
open Go.ChangeShapes Go.WideShapes Go.ChangeAt Go.RowKit
set_option linter.unusedVariables false

theorem own : ownKnob Try.prog.godebug = none := by kernel_rfl

-- params: rows:code:UInt8 rows:more:UInt8
-- import: FpN
-- import: Law
-- import: Tell
set_option maxHeartbeats 8000000 in
set_option maxRecDepth 100000 in
theorem walk (w : World) (A_code : Option Addr) (code : List UInt8) (c_code : Nat) (hm_code : code.length ≤ 9223372036854775807) (rd_code : Rd w A_code code) (A_more : Option Addr) (more : List UInt8) (c_more : Nat) (hm_more : more.length ≤ 9223372036854775807) (rd_more : Rd w A_more more) :
    Calls Try.prog 3 #[.slice A_code code.length c_code, .slice A_more more.length c_more] w fun e w' => e = .returned (.bool true) ∧ Gw w w' := by
  have hmc := Lib.hid hm_code
  have hmm := Lib.hid hm_more
  clear hm_code hm_more
  go_enter Try.func3, Try.ntmps3
  by_cases hsz : wrap64 ((code.length : Int) + (more.length : Int)) ≤ 1048576
  case neg =>
    go_wp2_with fail
    go_ret
    exact ⟨rfl, Gw.refl _⟩
  go_wp2_with fail
  refine (d_CountsAt _ _ _ _ hmc.out rd_code).mono ?_
  rintro _ w2 ⟨a, b, c, d, s, t, lim, rfl, G2⟩
  clear hsz rd_code
  obtain ⟨cn, ok, CI, CS, HC⟩ : ∃ (x : Int) (o : Bool), (∀ u, Calls Try.prog 5 #[.agg #[.int .i64 a, .int .i64 b], .agg #[.int .i64 c, .int .i64 d], .agg #[.int .i64 s, .int .i64 t], .int .i64 lim] u fun e w' => e = .returned (.tuple #[.int .i64 x, .bool o]) ∧ Gw u w') ∧
      (∀ u, Calls Try.prog 6 #[.agg #[.int .i64 a, .int .i64 b], .agg #[.int .i64 c, .int .i64 d], .agg #[.int .i64 s, .int .i64 t], .int .i64 lim] u fun e w' => e = .returned (.tuple #[.int .i64 x, .bool o]) ∧ Gw u w') ∧ Hid (countsAt a b c d s t lim = (x, o)) :=
    ⟨(countsAt a b c d s t lim).1, (countsAt a b c d s t lim).2, fun u => i_CountsAt a b c d s t lim u, fun u => s_CountsAt a b c d s t lim u, rfl⟩
  have CI := Lib.hid CI
  have CS := Lib.hid CS
  dsimp only
  have GA : Gw w2 (((w2.alloc (.cells #[.int .i64 a, .int .i64 b] 24)).alloc (.cells #[.int .i64 c, .int .i64 d] 24)).alloc (.cells #[.int .i64 s, .int .i64 t] 26)) := (((Gw.refl w2).alloc _).alloc _).alloc _
  have B5 := ((BoxR.new w2 #[.int .i64 a, .int .i64 b] 24).gw ((Gw.refl _).alloc (.cells #[.int .i64 c, .int .i64 d] 24))).gw ((Gw.refl _).alloc (.cells #[.int .i64 s, .int .i64 t] 26))
  have B6 := (BoxR.new (w2.alloc (.cells #[.int .i64 a, .int .i64 b] 24)) #[.int .i64 c, .int .i64 d] 24).gw ((Gw.refl _).alloc (.cells #[.int .i64 s, .int .i64 t] 26))
  have B7 := BoxR.new ((w2.alloc (.cells #[.int .i64 a, .int .i64 b] 24)).alloc (.cells #[.int .i64 c, .int .i64 d] 24)) #[.int .i64 s, .int .i64 t] 26
  simp only [World.size_alloc] at B6 B7
  have G2 := G2.trans GA
  clear GA
  go_wp2_with fail
  refine (CI.out _).mono ?_
  rintro _ w3 ⟨rfl, hb3⟩
  have G3 := G2.trans hb3
  have B5 := B5.gw hb3
  have B6 := B6.gw hb3
  have B7 := B7.gw hb3
  clear G2 hb3
  clear CI
  dsimp only
  have b50 := B5.cell 0 rfl
  have b51 := B5.cell 1 rfl
  have b60 := B6.cell 0 rfl
  have b61 := B6.cell 1 rfl
  have b70 := B7.cell 0 rfl
  have b71 := B7.cell 1 rfl
  go_wp2_with fail
  clear b50 b51 b60 b61 b70 b71
  refine (CS.out _).mono ?_
  rintro _ w4 ⟨rfl, hb4⟩
  have G4 := G3.trans hb4
  have B5 := B5.gw hb4
  have B6 := B6.gw hb4
  have B7 := B7.gw hb4
  clear G3 hb4
  clear CS
  dsimp only
  go_wp2_with fail
  refine (d_MovesTooFast _ _ _ _ hmm.out (rd_more.gw G4)).mono ?_
  rintro _ w5 ⟨l, Al, cl, mu, Am, cm, f, most, rfl, hl13, hmu41, ownl, ownm, hb5⟩
  have G5 := G4.trans hb5
  have B5 := B5.gw hb5
  have B6 := B6.gw hb5
  have B7 := B7.gw hb5
  have rdl := own_rd (α := MvT) ownl
  have rdm := own_rd (α := Int × Int) ownm
  clear G4 hb5 ownl ownm
  have hll : l.length ≤ 1048576 := by omega
  have hlm : mu.length ≤ 1048576 := by omega
  clear hl13 hmu41
  obtain ⟨fast, one, TI, TS, hlf, HT⟩ : ∃ (F : List Int) (o : Bool), (∀ u A (x : Nat) B (y : Nat), Rd u A l → Rd u B mu → Calls Try.prog 8 #[.slice A l.length x, .slice B mu.length y, .int .i64 f, .int .i64 most] u fun e w' => ∃ A c, e = .returned (.tuple #[.slice A F.length c, .bool o]) ∧ w'.ownsRow u.heap.size 3 1 (.slice A F.length c) F.length (flat F) ∧ Gw u w') ∧
      (∀ u A (x : Nat) B (y : Nat), Rd u A l → Rd u B mu → Calls Try.prog 9 #[.slice A l.length x, .slice B mu.length y, .int .i64 f, .int .i64 most] u fun e w' => ∃ A c, e = .returned (.tuple #[.slice A F.length c, .bool o]) ∧ w'.ownsRow u.heap.size 3 1 (.slice A F.length c) F.length (flat F) ∧ Gw u w') ∧ F.length ≤ 1048576 ∧ Hid (tooF l mu f most = (F, o)) :=
    ⟨(tooF l mu f most).1, (tooF l mu f most).2, fun u A x B y h1 h2 => i_MovesTooFast A x l B y mu f most u hll h1 hlm h2, fun u A x B y h1 h2 => s_MovesTooFast A x l B y mu f most u hll h1 hlm h2, tooF_len l mu f most, rfl⟩
  have TI := Lib.hid TI
  have TS := Lib.hid TS
  dsimp only
  go_wp2_with fail
  refine (TI.out _ _ _ _ _ rdl rdm).mono ?_
  rintro _ w6 ⟨Af, cf, rfl, ownf, hb6⟩
  have G6 := G5.trans hb6
  have B5 := B5.gw hb6
  have B6 := B6.gw hb6
  have B7 := B7.gw hb6
  have rdl := rdl.gw hb6
  have rdm := rdm.gw hb6
  have rdf := own_rd (α := Int) ownf
  clear G5 hb6 ownf TI
  dsimp only
  go_wp2_with fail
  refine (TS.out _ _ _ _ _ rdl rdm).mono ?_
  rintro _ w7 ⟨Ag, cg, rfl, owng, hb7⟩
  have G7 := G6.trans hb7
  have B5 := B5.gw hb7
  have B6 := B6.gw hb7
  have B7 := B7.gw hb7
  have rdl := rdl.gw hb7
  have rdm := rdm.gw hb7
  have rdf := rdf.gw hb7
  have rdg := own_rd (α := Int) owng
  clear G6 hb7 owng TS
  dsimp only
  go_wp2_with fail
  refine (d_MoveSpeed _ _ _ _ hmm.out (rd_more.gw G7)).mono ?_
  rintro _ w8 ⟨a', b', c', d', n', tempo, rfl, hb8⟩
  have G8 := G7.trans hb8
  have B5 := B5.gw hb8
  have B6 := B6.gw hb8
  have B7 := B7.gw hb8
  have rdl := rdl.gw hb8
  have rdm := rdm.gw hb8
  have rdf := rdf.gw hb8
  have rdg := rdg.gw hb8
  clear G7 hb8
  obtain ⟨top, bot, three, SI, SS, HS⟩ : ∃ (x y : Int) (o : Bool), (∀ u, Calls Try.prog 11 #[.agg #[.int .i64 a', .int .i64 b', .int .i64 c', .int .i64 d', .int .i64 n'], .int .i64 tempo] u fun e w' => e = .returned (.tuple #[.int .i64 x, .int .i64 y, .bool o]) ∧ Gw u w') ∧
      (∀ u, Calls Try.prog 12 #[.agg #[.int .i64 a', .int .i64 b', .int .i64 c', .int .i64 d', .int .i64 n'], .int .i64 tempo] u fun e w' => e = .returned (.tuple #[.int .i64 x, .int .i64 y, .bool o]) ∧ Gw u w') ∧ Hid (moveSpeed a' b' c' d' n' tempo = (x, y, o)) :=
    ⟨(moveSpeed a' b' c' d' n' tempo).1, (moveSpeed a' b' c' d' n' tempo).2.1, (moveSpeed a' b' c' d' n' tempo).2.2, fun u => i_MoveSpeed a' b' c' d' n' tempo u, fun u => s_MoveSpeed a' b' c' d' n' tempo u, rfl⟩
  have SI := Lib.hid SI
  have SS := Lib.hid SS
  have GN := (Gw.refl w8).alloc (.cells #[.int .i64 a', .int .i64 b', .int .i64 c', .int .i64 d', .int .i64 n'] 39)
  have BM := BoxR.new w8 #[.int .i64 a', .int .i64 b', .int .i64 c', .int .i64 d', .int .i64 n'] 39
  have B5 := B5.gw GN
  have B6 := B6.gw GN
  have B7 := B7.gw GN
  have rdl := rdl.gw GN
  have rdm := rdm.gw GN
  have rdf := rdf.gw GN
  have rdg := rdg.gw GN
  have G8 := G8.trans GN
  clear GN
  dsimp only
  go_wp2_with fail
  refine (SI.out _).mono ?_
  rintro _ w9 ⟨rfl, hb9⟩
  have G9 := G8.trans hb9
  have B5 := B5.gw hb9
  have B6 := B6.gw hb9
  have B7 := B7.gw hb9
  have rdl := rdl.gw hb9
  have rdm := rdm.gw hb9
  have rdf := rdf.gw hb9
  have rdg := rdg.gw hb9
  have BM := BM.gw hb9
  clear G8 hb9
  clear SI
  have bm0 := BM.cell 0 rfl
  have bm1 := BM.cell 1 rfl
  have bm2 := BM.cell 2 rfl
  have bm3 := BM.cell 3 rfl
  have bm4 := BM.cell 4 rfl
  dsimp only
  go_wp2_with fail
  clear bm0 bm1 bm2 bm3 bm4
  refine (SS.out _).mono ?_
  rintro _ w10 ⟨rfl, hb10⟩
  have G10 := G9.trans hb10
  have B5 := B5.gw hb10
  have B6 := B6.gw hb10
  have B7 := B7.gw hb10
  have rdl := rdl.gw hb10
  have rdm := rdm.gw hb10
  have rdf := rdf.gw hb10
  have rdg := rdg.gw hb10
  have BM := BM.gw hb10
  clear G9 hb10
  clear SS
  dsimp only
  go_wp2_with fail
  refine (d_MoveLasts _ _ _ _ hmm.out (rd_more.gw G10)).mono ?_
  rintro _ w11 ⟨u1, u2, u3, u4, u5, v, Av, cv, at', rfl, hv41, ownv, hb11⟩
  have G11 := G10.trans hb11
  have B5 := B5.gw hb11
  have B6 := B6.gw hb11
  have B7 := B7.gw hb11
  have rdl := rdl.gw hb11
  have rdm := rdm.gw hb11
  have rdf := rdf.gw hb11
  have rdg := rdg.gw hb11
  have BM := BM.gw hb11
  have rdv := own_rd (α := Int × Int) ownv
  clear G10 hb11 ownv rd_more
  have hlv : v.length ≤ 1048576 := by omega
  clear hv41
  obtain ⟨lasts, five, LI, LS, HL⟩ : ∃ (x : Int) (o : Bool), (∀ u A (c : Nat), Rd u A v → Calls Try.prog 14 #[.agg #[.int .i64 u1, .int .i64 u2, .int .i64 u3, .int .i64 u4, .int .i64 u5], .slice A v.length c, .int .i64 at'] u fun e w' => e = .returned (.tuple #[.int .i64 x, .bool o]) ∧ Gw u w') ∧
      (∀ u A (c : Nat), Rd u A v → Calls Try.prog 15 #[.agg #[.int .i64 u1, .int .i64 u2, .int .i64 u3, .int .i64 u4, .int .i64 u5], .slice A v.length c, .int .i64 at'] u fun e w' => e = .returned (.tuple #[.int .i64 x, .bool o]) ∧ Gw u w') ∧ Hid (moveLasts u1 u2 u3 u4 u5 v at' = (x, o)) :=
    ⟨(moveLasts u1 u2 u3 u4 u5 v at').1, (moveLasts u1 u2 u3 u4 u5 v at').2, fun u A c h => i_MoveLasts u1 u2 u3 u4 u5 A c v at' u hlv h, fun u A c h => s_MoveLasts u1 u2 u3 u4 u5 A c v at' u hlv h, rfl⟩
  have LI := Lib.hid LI
  have LS := Lib.hid LS
  have GN := (Gw.refl w11).alloc (.cells #[.int .i64 u1, .int .i64 u2, .int .i64 u3, .int .i64 u4, .int .i64 u5] 39)
  have BU := BoxR.new w11 #[.int .i64 u1, .int .i64 u2, .int .i64 u3, .int .i64 u4, .int .i64 u5] 39
  have B5 := B5.gw GN
  have B6 := B6.gw GN
  have B7 := B7.gw GN
  have rdl := rdl.gw GN
  have rdm := rdm.gw GN
  have rdf := rdf.gw GN
  have rdg := rdg.gw GN
  have BM := BM.gw GN
  have rdv := rdv.gw GN
  have G11 := G11.trans GN
  clear GN
  dsimp only
  go_wp2_with fail
  refine (LI.out _ _ _ rdv).mono ?_
  rintro _ w12 ⟨rfl, hb12⟩
  have G12 := G11.trans hb12
  have B5 := B5.gw hb12
  have B6 := B6.gw hb12
  have B7 := B7.gw hb12
  have rdl := rdl.gw hb12
  have rdm := rdm.gw hb12
  have rdf := rdf.gw hb12
  have rdg := rdg.gw hb12
  have BM := BM.gw hb12
  have rdv := rdv.gw hb12
  have BU := BU.gw hb12
  clear G11 hb12
  clear LI
  have bu0 := BU.cell 0 rfl
  have bu1 := BU.cell 1 rfl
  have bu2 := BU.cell 2 rfl
  have bu3 := BU.cell 3 rfl
  have bu4 := BU.cell 4 rfl
  dsimp only
  go_wp2_with fail
  clear bu0 bu1 bu2 bu3 bu4
  refine (LS.out _ _ _ rdv).mono ?_
  rintro _ w13 ⟨rfl, hb13⟩
  have G13 := G12.trans hb13
  have B5 := B5.gw hb13
  have B6 := B6.gw hb13
  have B7 := B7.gw hb13
  have rdl := rdl.gw hb13
  have rdm := rdm.gw hb13
  have rdf := rdf.gw hb13
  have rdg := rdg.gw hb13
  have BM := BM.gw hb13
  have rdv := rdv.gw hb13
  have BU := BU.gw hb13
  clear G12 hb13
  clear LS
  have e1 : (ok != ok) = false := by simp
  have e2 : (one != one) = false := by simp
  have e3 : (three != three) = false := by simp
  have e4 : (five != five) = false := by simp
  have e5 : (cn != cn) = false := by simp
  have e6 : (top != top) = false := by simp
  have e7 : (bot != bot) = false := by simp
  have e8 : (lasts != lasts) = false := by simp
  dsimp only
  go_wp2_with fail
  refine (l_qInts _ _ _ _ _ _ hlf rdf rdg).mono ?_
  rintro _ w14 ⟨rfl, hb14⟩
  have G14 := G13.trans hb14
  have B5 := B5.gw hb14
  have B6 := B6.gw hb14
  have B7 := B7.gw hb14
  have rdl := rdl.gw hb14
  have rdm := rdm.gw hb14
  have rdf := rdf.gw hb14
  have rdg := rdg.gw hb14
  have BM := BM.gw hb14
  have rdv := rdv.gw hb14
  have BU := BU.gw hb14
  clear G13 hb14
  dsimp only
  repeat (first | (go_at_K; go_step; exact fp15 B5 B6 B7 HC rdl hll rdm rdg hlf HT BM HS BU rdv HL G14) | go_step)


set_option maxRecDepth 100000 in
theorem lifted (os : Os) (started : os.Started) (H : Type) (enc : TypeId × Value → H) :
    ReturnsInHanded {} Try.checked os 3 .any (Rows.fnSpeedsSpec.pre6 enc Try.prog Try.f3 Rows.fnSpeedsRow.domain false) (Rows.fnSpeedsSpec.post enc Try.prog Try.f3 false true false false) := by
  refine returnsInHanded_of_change (C := Try.checked) own started (by kernel_rfl) Try.func3
    (ChangeSpec.witness6 (enc := enc) (C := Try.checked) false ⟨#[], #[.slice none 0 0, .slice none 0 0], []⟩ 8 (by kernel_rfl) (by kernel_rfl) (by kernel_rfl) (by kernel_rfl)) ?_
  intro W base args ds gs before hval0 hW hcnd _
  have hval : ∀ (j : Nat) t v, Try.f3.params[j]? = some t → args[j]? = some v → Value.okWide Try.prog W .any base t v := hval0
  have hW' := hW
  have hlt0 : ∀ p ∈ before, p.block < W.heap.size := fun p hp => hW.lt p hp
  obtain ⟨p, q, hA0, hV, rfl, hfz, hnd⟩ := hW
  have hlt : ∀ x ∈ p, x.block < W.heap.size := fun x hx => hlt0 x (List.mem_append_left _ hx)
  have hA : DataW.TrodAll enc Try.prog W 0 (fun _ => true) true Try.f3.params.toList args.toList ds p := hA0
  rw [Try.params3] at hA hval
  obtain ⟨v0, vs0, d0, ds0, p0, q0, hargs, rfl, rfl, h0, r0⟩ := trodAll_cons hA
  obtain ⟨v1, vs1, d1, ds1, p1, q1, rfl, rfl, rfl, h1, r1⟩ := trodAll_cons r0
  obtain ⟨rfl, rfl, rfl⟩ := trodAll_nil r1
  obtain rfl : args = #[v0, v1] := by cases args; simp_all
  obtain ⟨rfl, rfl⟩ := trodVars_none hV
  obtain ⟨A_code, code, c_code, rfl, hlc_code, hmc_code, rd_code, ok_code⟩ := open_rows (α := UInt8) (n := 6) Try.underlying22 (by kernel_rfl) (by kernel_rfl) (hval 0 22 v0 rfl rfl) h0 (fun x hx => hlt x (by simp [hx]))
  have hm_code : code.length ≤ 9223372036854775807 := by have := Nat.le_trans hlc_code hmc_code; unfold maxLen at this; omega
  obtain ⟨A_more, more, c_more, rfl, hlc_more, hmc_more, rd_more, ok_more⟩ := open_rows (α := UInt8) (n := 6) Try.underlying22 (by kernel_rfl) (by kernel_rfl) (hval 1 22 v1 rfl rfl) h1 (fun x hx => hlt x (by simp [hx]))
  have hm_more : more.length ≤ 9223372036854775807 := by have := Nat.le_trans hlc_more hmc_more; unfold maxLen at this; omega
  refine (walk W A_code code c_code hm_code rd_code A_more more c_more hm_more rd_more).mono fun e W' ⟨he, hg⟩ => ?_
  subst he
  exact ⟨_, rfl, post_law (by kernel_rfl) (by rw [Try.params3]; exact plainTypes (by kernel_rfl)) rfl Try.underlying4 rfl ⟨rfl, rfl, rfl⟩ hW' hg⟩

theorem over : Rows.fnSpeedsRow.holds Try.pinned (OpenSpec.ofChange Rows.fnSpeedsSpec) :=
  OpenClaim.holds_of_wide 3 Try.f3 rfl rfl rfl rfl rfl rfl rfl ⟨rfl, rfl, rfl, rfl, rfl⟩ rfl rfl rfl rfl rfl (by kernel_rfl) Try.func3 (by kernel_rfl)
    (of_decide_eq_true (by kernel_rfl)) (by unfold Func.isWrapper; first | (rw [if_pos (by decide +kernel)]; kernel_rfl) | (rw [if_neg (by decide +kernel)]; exact ⟨rfl, rfl⟩))
    (fun os started H enc _ => lifted os started H enc)

/-- The statement. -/
theorem proved : Rows.FnSpeedsSaid :=
  over
#print axioms proved
end Go.Proofs.Ythokcddabgojgaa.lawFnSpeeds
