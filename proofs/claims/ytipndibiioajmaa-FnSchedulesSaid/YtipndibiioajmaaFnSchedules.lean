/-
  The law FnSchedules answers true at every input, and its arguments read afterwards as they read before.
-/
import Derived.Test.YtipndibiioajmaaRows
import Derived.Test.YtipndibiioajmaaFsAll
import Derived.Test.YtipndibiioajmaaLaw
import Derived.Test.YtipndibiioajmaaTell
namespace Go.Proofs.Ytipndibiioajmaa.lawFnSchedules
open Go.ChangeShapes Go.WideShapes Go.ChangeAt Go.RowKit
set_option linter.unusedVariables false

theorem own : ownKnob Try.prog.godebug = none := by kernel_rfl

-- params: rows:code:UInt8 rows:more:UInt8
-- import: FsAll
-- import: Law
-- import: Tell
set_option maxHeartbeats 8000000 in
set_option maxRecDepth 100000 in
theorem walk (w : World) (A_code : Option Addr) (code : List UInt8) (c_code : Nat) (hm_code : code.length ≤ 9223372036854775807) (rd_code : Rd w A_code code) (A_more : Option Addr) (more : List UInt8) (c_more : Nat) (hm_more : more.length ≤ 9223372036854775807) (rd_more : Rd w A_more more) :
    Calls Try.prog 4 #[.slice A_code code.length c_code, .slice A_more more.length c_more] w fun e w' => e = .returned (.bool true) ∧ Gw w w' := by
  have hmc := Lib.hid hm_code
  have hmm := Lib.hid hm_more
  clear hm_code hm_more
  go_enter Try.func4, Try.ntmps4
  by_cases hsz : wrap64 ((code.length : Int) + (more.length : Int)) ≤ 1048576
  case neg =>
    go_wp2_with fail
    go_ret
    exact ⟨rfl, Gw.refl _⟩
  go_wp2_with fail
  refine (d_BestOrder _ _ _ _ hmc.out rd_code).mono ?_
  rintro _ w2 ⟨W, AW, cW, L, AL, cL, rfl, -, hlW, -, hlL, ownW, ownL, G2⟩
  have rdW := own_rd (α := W3) ownW
  have rdL := own_rd (α := R2) ownL
  have hcW := own_cap2 ownW
  have hcL := own_cap2 ownL
  have hlW' : W.length ≤ 1048576 := by omega
  have hlL' : L.length ≤ 1048576 := by omega
  clear hsz ownW ownL rd_code hlW hlL
  obtain ⟨F, ok, FI, FS, hlF, HF⟩ : ∃ (F : List B4) (o : Bool), (∀ u A (a : Nat) B (b : Nat), Rd u A W → W.length ≤ a → Rd u B L → L.length ≤ b → Calls Try.prog 19 #[.slice A W.length a, .slice B L.length b] u fun e w' => ∃ A c, e = .returned (.tuple #[.slice A F.length c, .bool o]) ∧ w'.ownsRow u.heap.size 88 4 (.slice A F.length c) F.length (flat F) ∧ Gw u w') ∧
      (∀ u A (a : Nat) B (b : Nat), Rd u A W → W.length ≤ a → Rd u B L → L.length ≤ b → Calls Try.prog 20 #[.slice A W.length a, .slice B L.length b] u fun e w' => ∃ A c, e = .returned (.tuple #[.slice A F.length c, .bool o]) ∧ w'.ownsRow u.heap.size 88 4 (.slice A F.length c) F.length (flat F) ∧ Gw u w') ∧ F.length ≤ 1048576 ∧ Hid (planF W L = (F, o)) :=
    ⟨(planF W L).1, (planF W L).2, fun u A a B b h1 h2 h3 h4 => i_FirstSchedule A a W B b L u hlW' h1 h2 hlL' h3 h4, fun u A a B b h1 h2 h3 h4 => s_FirstSchedule A a W B b L u hlW' h1 h2 hlL' h3 h4, planF_len W L, rfl⟩
  obtain ⟨O, E, one, BI, BS, hlO, HO⟩ : ∃ (O : List Int) (E : Int) (o : Bool), (∀ u A (a : Nat) B (b : Nat), Rd u A W → W.length ≤ a → Rd u B L → L.length ≤ b → Calls Try.prog 10 #[.slice A W.length a, .slice B L.length b] u fun e w' => ∃ A c, e = .returned (.tuple #[.slice A O.length c, .int .i64 E, .bool o]) ∧ w'.ownsRow u.heap.size 3 1 (.slice A O.length c) O.length (flat O) ∧ Gw u w') ∧
      (∀ u A (a : Nat) B (b : Nat), Rd u A W → W.length ≤ a → Rd u B L → L.length ≤ b → Calls Try.prog 7 #[.slice A W.length a, .slice B L.length b] u fun e w' => ∃ A c, e = .returned (.tuple #[.slice A O.length c, .int .i64 E, .bool o]) ∧ w'.ownsRow u.heap.size 3 1 (.slice A O.length c) O.length (flat O) ∧ Gw u w') ∧ O.length ≤ 1048576 ∧ Hid (bestOF W L = (O, E, o)) :=
    ⟨(bestOF W L).1, (bestOF W L).2.1, (bestOF W L).2.2, fun u A a B b h1 h2 h3 h4 => i_BestOrder A a W B b L u hlW' h1 h2 hlL' h3 h4, fun u A a B b h1 h2 h3 h4 => s_BestOrder A a W B b L u hlW' h1 h2 hlL' h3 h4, bestOF_len W L, rfl⟩
  obtain ⟨rh, hrh⟩ := bool_of (RehP L)
  have RI := fun u A c h => (i_AreRehearsals A c L u hlL' h).mono (tells_bool hrh)
  have RS := fun u A c h => (s_AreRehearsals A c L u hlL' h).mono (tells_bool hrh)
  have RI := Lib.hid RI
  have RS := Lib.hid RS
  have BI := Lib.hid BI
  have BS := Lib.hid BS
  have HE : Hid (ok = true → one = true ∧ E ≤ endF F) := fun h => by
    subst h
    obtain ⟨_, _, _, _, O', E', h1, h2⟩ := first_facts HF.out
    have := HO.out.symm.trans h1
    simp only [Prod.mk.injEq] at this
    obtain ⟨rfl, rfl, rfl⟩ := this
    exact ⟨rfl, h2⟩
  clear hrh
  dsimp only
  go_wp2_with fail
  refine (FI _ _ _ _ _ rdW hcW rdL hcL).mono ?_
  rintro _ w3 ⟨AF, cF, rfl, ownF, hb3⟩
  have G3 := G2.trans hb3
  have rdW := rdW.gw hb3
  have rdL := rdL.gw hb3
  have rdF := own_rd (α := B4) ownF
  have hcF := own_cap2 ownF
  clear FI ownF G2 hb3
  dsimp only
  go_wp2_with fail
  refine (FS _ _ _ _ _ rdW hcW rdL hcL).mono ?_
  rintro _ w4 ⟨AG, cG, rfl, ownG, hb4⟩
  have G4 := G3.trans hb4
  have rdW := rdW.gw hb4
  have rdL := rdL.gw hb4
  have rdF := rdF.gw hb4
  have rdG := own_rd (α := B4) ownG
  have hcG := own_cap2 ownG
  clear FS ownG G3 hb4
  dsimp only
  go_wp2_with fail
  refine (BI.out _ _ _ _ _ rdW hcW rdL hcL).mono ?_
  rintro _ w5 ⟨Ao, co, rfl, owno, hb5⟩
  have G5 := G4.trans hb5
  have rdW := rdW.gw hb5
  have rdL := rdL.gw hb5
  have rdF := rdF.gw hb5
  have rdG := rdG.gw hb5
  have rdo := own_rd (α := Int) owno
  clear BI owno G4 hb5
  dsimp only
  go_wp2_with fail
  refine (BS.out _ _ _ _ _ rdW hcW rdL hcL).mono ?_
  rintro _ w6 ⟨AO, cO, rfl, ownO, hb6⟩
  have G6 := G5.trans hb6
  have rdW := rdW.gw hb6
  have rdL := rdL.gw hb6
  have rdF := rdF.gw hb6
  have rdG := rdG.gw hb6
  have rdo := rdo.gw hb6
  have rdO := own_rd (α := Int) ownO
  clear BS ownO G5 hb6
  dsimp only
  go_wp2_with fail
  refine (d_FreeWindows _ _ _ _ hmm.out (rd_more.gw G6)).mono ?_
  rintro _ w7 ⟨a, Aa, ca, s, As, cs, rfl, -, hla, -, hls, owna, owns, hb7⟩
  have G7 := G6.trans hb7
  have rdW := rdW.gw hb7
  have rdL := rdL.gw hb7
  have rdF := rdF.gw hb7
  have rdG := rdG.gw hb7
  have rdo := rdo.gw hb7
  have rdO := rdO.gw hb7
  have rda := own_rd (α := W3) owna
  have rds := own_rd (α := B4) owns
  have hca := own_cap2 owna
  have hcs := own_cap2 owns
  have hla' : a.length ≤ 1048576 := by omega
  have hls' : s.length ≤ 1048576 := by omega
  clear owna owns hla hls G6 hb7 rd_more
  obtain ⟨P, three, PI, PS, hlP, HP⟩ : ∃ (P : List W3) (o : Bool), (∀ u A (c : Nat) B (b : Nat), Rd u A a → a.length ≤ c → Rd u B s → s.length ≤ b → Calls Try.prog 22 #[.slice A a.length c, .slice B s.length b] u fun e w' => ∃ A c, e = .returned (.tuple #[.slice A P.length c, .bool o]) ∧ w'.ownsRow u.heap.size 71 3 (.slice A P.length c) P.length (flat P) ∧ Gw u w') ∧
      (∀ u A (c : Nat) B (b : Nat), Rd u A a → a.length ≤ c → Rd u B s → s.length ≤ b → Calls Try.prog 23 #[.slice A a.length c, .slice B s.length b] u fun e w' => ∃ A c, e = .returned (.tuple #[.slice A P.length c, .bool o]) ∧ w'.ownsRow u.heap.size 71 3 (.slice A P.length c) P.length (flat P) ∧ Gw u w') ∧ P.length ≤ 1048576 ∧ Hid (freeF a s = (P, o)) :=
    ⟨(freeF a s).1, (freeF a s).2, fun u A c B b h1 h2 h3 h4 => i_FreeWindows A c a B b s u hla' h1 h2 hls' h3 h4, fun u A c B b h1 h2 h3 h4 => s_FreeWindows A c a B b s u hla' h1 h2 hls' h3 h4, freeF_len a s, rfl⟩
  dsimp only
  go_wp2_with fail
  refine (PI _ _ _ _ _ rda hca rds hcs).mono ?_
  rintro _ w8 ⟨AP, cP, rfl, ownP, hb8⟩
  have G8 := G7.trans hb8
  have rdW := rdW.gw hb8
  have rdL := rdL.gw hb8
  have rdF := rdF.gw hb8
  have rdG := rdG.gw hb8
  have rdo := rdo.gw hb8
  have rdO := rdO.gw hb8
  have rda := rda.gw hb8
  have rds := rds.gw hb8
  have rdP := own_rd (α := W3) ownP
  clear PI ownP G7 hb8
  dsimp only
  go_wp2_with fail
  refine (PS _ _ _ _ _ rda hca rds hcs).mono ?_
  rintro _ w9 ⟨AQ, cQ, rfl, ownQ, hb9⟩
  have G9 := G8.trans hb9
  have rdW := rdW.gw hb9
  have rdL := rdL.gw hb9
  have rdF := rdF.gw hb9
  have rdG := rdG.gw hb9
  have rdo := rdo.gw hb9
  have rdO := rdO.gw hb9
  have rda := rda.gw hb9
  have rds := rds.gw hb9
  have rdP := rdP.gw hb9
  have rdQ := own_rd (α := W3) ownQ
  clear PS ownQ G8 hb9
  have e1 : (ok != ok) = false := by simp
  have e2 : (one != one) = false := by simp
  have e3 : (three != three) = false := by simp
  have e4 : (E != E) = false := by simp
  have e5 : (rh != rh) = false := by simp
  have e6 : (ok && !one) = false := by
    cases ok with
    | false => rfl
    | true => rw [(HE.out rfl).1]; rfl
  have HE2 : Hid (ok = true → E ≤ endF F) := fun h => (HE.out h).2
  have HE1 : Hid (ok = true → one = true) := fun h => (HE.out h).1
  dsimp only
  go_wp2_with fail
  refine (l_qBooked _ _ _ _ _ _ hlF rdF rdG).mono ?_
  rintro _ w10 ⟨rfl, g10⟩
  dsimp only
  go_wp2_with fail
  refine (l_qInts _ _ _ _ _ _ hlO (rdo.gw g10) (rdO.gw g10)).mono ?_
  rintro _ w11 ⟨rfl, hb11⟩
  have g11 := g10.trans hb11
  dsimp only
  go_wp2_with fail
  refine (l_qWindows _ _ _ _ _ _ hlP (rdP.gw g11) (rdQ.gw g11)).mono ?_
  rintro _ w12 ⟨rfl, hb12⟩
  have g12 := g11.trans hb12
  dsimp only
  cases ok with
  | false =>
    go_wp2_with fail
    refine (RI.out _ _ _ (rdL.gw g12)).mono ?_
    rintro _ w13 ⟨rfl, hb13⟩
    have g13 := g12.trans hb13
    dsimp only
    go_wp2_with fail
    refine (RS.out _ _ _ (rdL.gw g13)).mono ?_
    rintro _ w14 ⟨rfl, hb14⟩
    have g14 := g13.trans hb14
    dsimp only
    repeat (first | (go_at_K; go_step; exact fs11 (rdW.gw g14) hcW hlW' (rdL.gw g14) hcL hlL' (rdF.gw g14) hcF hlF (rdG.gw g14) hcG HF HE2 (rdO.gw g14) hlO HO (rda.gw g14) hla' (rds.gw g14) hcs hls' (rdP.gw g14) (rdQ.gw g14) hlP HP (G9.trans g14)) | go_step)
  | true =>
    obtain rfl := HE1.out (by trivial)
    have hEE := Lib.hid (HE2.out (by trivial))
    go_wp2_with fail
    refine (RI.out _ _ _ (rdL.gw g12)).mono ?_
    rintro _ w13 ⟨rfl, hb13⟩
    have g13 := g12.trans hb13
    dsimp only
    go_wp2_with fail
    refine (RS.out _ _ _ (rdL.gw g13)).mono ?_
    rintro _ w14 ⟨rfl, hb14⟩
    have g14 := g13.trans hb14
    dsimp only
    repeat (first | (go_at_K; go_step; exact fs11 (rdW.gw g14) hcW hlW' (rdL.gw g14) hcL hlL' (rdF.gw g14) hcF hlF (rdG.gw g14) hcG HF (show Hid (true = true → E ≤ endF F) from fun _ => hEE.out) (rdO.gw g14) hlO HO (rda.gw g14) hla' (rds.gw g14) hcs hls' (rdP.gw g14) (rdQ.gw g14) hlP HP (G9.trans g14)) | go_step)


set_option maxRecDepth 100000 in
theorem lifted (os : Os) (started : os.Started) (H : Type) (enc : TypeId × Value → H) :
    ReturnsInHanded {} Try.checked os 4 .any (Rows.fnSchedulesSpec.pre6 enc Try.prog Try.f4 Rows.fnSchedulesRow.domain false) (Rows.fnSchedulesSpec.post enc Try.prog Try.f4 false true false false) := by
  refine returnsInHanded_of_change (C := Try.checked) own started (by kernel_rfl) Try.func4
    (ChangeSpec.witness6 (enc := enc) (C := Try.checked) false ⟨#[], #[.slice none 0 0, .slice none 0 0], []⟩ 8 (by kernel_rfl) (by kernel_rfl) (by kernel_rfl) (by kernel_rfl)) ?_
  intro W base args ds gs before hval0 hW hcnd _
  have hval : ∀ (j : Nat) t v, Try.f4.params[j]? = some t → args[j]? = some v → Value.okWide Try.prog W .any base t v := hval0
  have hW' := hW
  have hlt0 : ∀ p ∈ before, p.block < W.heap.size := fun p hp => hW.lt p hp
  obtain ⟨p, q, hA0, hV, rfl, hfz, hnd⟩ := hW
  have hlt : ∀ x ∈ p, x.block < W.heap.size := fun x hx => hlt0 x (List.mem_append_left _ hx)
  have hA : DataW.TrodAll enc Try.prog W 0 (fun _ => true) true Try.f4.params.toList args.toList ds p := hA0
  rw [Try.params4] at hA hval
  obtain ⟨v0, vs0, d0, ds0, p0, q0, hargs, rfl, rfl, h0, r0⟩ := trodAll_cons hA
  obtain ⟨v1, vs1, d1, ds1, p1, q1, rfl, rfl, rfl, h1, r1⟩ := trodAll_cons r0
  obtain ⟨rfl, rfl, rfl⟩ := trodAll_nil r1
  obtain rfl : args = #[v0, v1] := by cases args; simp_all
  obtain ⟨rfl, rfl⟩ := trodVars_none hV
  obtain ⟨A_code, code, c_code, rfl, hlc_code, hmc_code, rd_code, ok_code⟩ := open_rows (α := UInt8) (n := 6) Try.underlying40 (by kernel_rfl) (by kernel_rfl) (hval 0 40 v0 rfl rfl) h0 (fun x hx => hlt x (by simp [hx]))
  have hm_code : code.length ≤ 9223372036854775807 := by have := Nat.le_trans hlc_code hmc_code; unfold maxLen at this; omega
  obtain ⟨A_more, more, c_more, rfl, hlc_more, hmc_more, rd_more, ok_more⟩ := open_rows (α := UInt8) (n := 6) Try.underlying40 (by kernel_rfl) (by kernel_rfl) (hval 1 40 v1 rfl rfl) h1 (fun x hx => hlt x (by simp [hx]))
  have hm_more : more.length ≤ 9223372036854775807 := by have := Nat.le_trans hlc_more hmc_more; unfold maxLen at this; omega
  refine (walk W A_code code c_code hm_code rd_code A_more more c_more hm_more rd_more).mono fun e W' ⟨he, hg⟩ => ?_
  subst he
  exact ⟨_, rfl, post_law (by kernel_rfl) (by rw [Try.params4]; exact plainTypes (by kernel_rfl)) rfl Try.underlying4 rfl ⟨rfl, rfl, rfl⟩ hW' hg⟩

theorem over : Rows.fnSchedulesRow.holds Try.pinned (OpenSpec.ofChange Rows.fnSchedulesSpec) :=
  OpenClaim.holds_of_wide 4 Try.f4 rfl rfl rfl rfl rfl rfl rfl ⟨rfl, rfl, rfl, rfl, rfl⟩ rfl rfl rfl rfl rfl (by kernel_rfl) Try.func4 (by kernel_rfl)
    (of_decide_eq_true (by kernel_rfl)) (by unfold Func.isWrapper; first | (rw [if_pos (by decide +kernel)]; kernel_rfl) | (rw [if_neg (by decide +kernel)]; exact ⟨rfl, rfl⟩))
    (fun os started H enc _ => lifted os started H enc)

/-- The statement. -/
theorem proved : Rows.FnSchedulesSaid :=
  over
#print axioms proved
end Go.Proofs.Ytipndibiioajmaa.lawFnSchedules
