/-
  FnSchedules: what is left of its text behind some statements.
  FnSchedules: what is left of its text behind some statements.
  FnSchedules: what is left of its text behind some statements.
-/
import Derived.Test.YtipndibiioajmaaQ
import Derived.Test.YtipndibiioajmaaSched
import Derived.Test.YtipndibiioajmaaHours
import Derived.Test.YtipndibiioajmaaReh
import Derived.Test.YtipndibiioajmaaBook
import Derived.Test.YtipndibiioajmaaWho
namespace Go.Proofs.Ytipndibiioajmaa
open Go.ChangeShapes Go.WideShapes Go.ChangeAt Go.RowKit
set_option linter.unusedVariables false
set_option maxHeartbeats 16000000 in
set_option maxRecDepth 100000 in
theorem fs13 {w w1 : World} {AW AL AF AG : Option Addr} {cW cL cF cG : Nat} {W : List W3} {L : List R2} {F : List B4} {ok : Bool} {E : Int} {s0 s1 s2 s3 s4 s10 s11 s12 s13 s14 s16 s17 s18 s19 s20 s21 s22 s23 s24 s25 s26 s27 s28 s29 s30 s31 s32 s33 s34 s35 s36 s37 s38 s39 s40 s41 s42 s43 s44 s45 s46 s47 s48 s49 s50 s51 s52 s53 s54 s55 s56 s57 s58 s59 s60 s61 s62 s63 s64 s65 s66 s67 s68 s69 s70 s71 s72 s73 s74 s75 s76 s77 s78 s79 s80 s81 s82 s83 s84 s85 s86 s87 s88 s89 s90 s91 s92 s93 s94 s95 s96 s97 s98 s99 s100 s101 s102 s103 s104 s105 s106 s107 s108 s109 s110 s111 s112 s113 s114 s115 s116 s117 s118 s119 s120 s121 s122 s123 s124 s125 s126 s127 s128 s129 s130 s131 s132 s133 s134 s135 s136 s137 s138 s139 s140 s141 s142 s143 s144 s145 s146 s147 s148 s149 s150 s151 s152 s153 s154 s155 s156 s157 s158 s159 s160 s161 s162 s163 s164 s165 s166 s167 s168 s169 s170 s171 s172 s173 s174 s175 s176 s177 s178 s179 s180 s181 s182 s183 s184 s185 s186 s187 s188 s189 s190 s191 s192 s193 s194 s195 s196 s197 s198 s199 s200 s201 s202 s203 s204 s205 s206 s207 s208 s209 s210 s211 s212 s213 s214 s215 s216 s217 s218 s219 s220 s221 s222 s223 s224 s225 s226 s227 s228 s229 s230 s231 s232 s233 s234 s235 s236 s237 s238 s239 s240 s241 s242 s243 s244 s245 s246 s247 s248 s249 s250 s251 s252 s253 s254 s255 s256 s257 s258 s259 s260 s261 s262 s263 s264 s265 s266 s267 s268 s269 s270 s271 s272 s273 s274 s275 s276 s277 s278 s279 s280 s281 s282 s283 s284 s285 s286 s287 s288 s289 s290 s291 s292 s293 s294 s295 s296 s297 s298 s299 s300 s301 s302 s303 s304 s305 s306 s307 s308 s309 s310 s311 s312 s313 s314 s315 s316 s317 s318 s319 s320 s321 s322 s323 s324 s325 s326 s327 s328 s329 s330 s331 s332 s333 s334 s335 s336 s337 s338 s339 s340 s341 s342 s343 s344 s345 s346 : Value} (rdW : Rd w1 AW W) (hcW : W.length ≤ cW) (hlW : W.length ≤ 1048576) (rdL : Rd w1 AL L) (hcL : L.length ≤ cL) (hlL : L.length ≤ 1048576) (rdF : Rd w1 AF F) (hcF : F.length ≤ cF) (hlF : F.length ≤ 1048576) (rdG : Rd w1 AG F) (hcG : F.length ≤ cG) (HF : Hid (planF W L = (F, ok))) (HE : Hid (ok = true → E ≤ endF F)) (G : Gw w w1) :
    Code.wp Try.prog (Code.tailOf 13 (Try.f4.body.getD .skip)) (bodyPost Try.prog Try.f4 fun e w' => e = .returned (.bool true) ∧ Gw w w') ⟨#[s0, s1, s2, s3, s4, .slice AW W.length cW, .slice AL L.length cL, .slice AF F.length cF, .bool ok, .slice AG F.length cG, s10, s11, s12, s13, s14, .int .i64 E, s16, s17, s18, s19, s20, s21, s22, s23, s24, s25, s26, s27, s28, s29, s30, s31, s32, s33, s34, s35, s36, s37, s38, s39, s40, s41, s42, s43, s44, s45, s46, s47, s48, s49, s50, s51, s52, s53, s54, s55, s56, s57, s58, s59, s60, s61, s62, s63, s64, s65, s66, s67, s68, s69, s70, s71, s72, s73, s74, s75, s76, s77, s78, s79, s80, s81, s82, s83, s84, s85, s86, s87, s88, s89, s90, s91, s92, s93, s94, s95, s96, s97, s98, s99, s100, s101, s102, s103, s104, s105, s106, s107, s108, s109, s110, s111, s112, s113, s114, s115, s116, s117, s118, s119, s120, s121, s122, s123, s124, s125, s126, s127, s128, s129, s130, s131, s132, s133, s134, s135, s136, s137, s138, s139, s140, s141, s142, s143, s144, s145, s146, s147, s148, s149, s150, s151, s152, s153, s154, s155, s156, s157, s158, s159, s160, s161, s162, s163, s164, s165, s166, s167, s168, s169, s170, s171, s172, s173, s174, s175, s176, s177, s178, s179, s180, s181, s182, s183, s184, s185, s186, s187, s188, s189, s190, s191, s192, s193, s194, s195, s196, s197, s198, s199, s200, s201, s202, s203, s204, s205, s206, s207, s208, s209, s210, s211, s212, s213, s214, s215, s216, s217, s218, s219, s220, s221, s222, s223, s224, s225, s226, s227, s228, s229, s230, s231, s232, s233, s234, s235, s236, s237, s238, s239, s240, s241, s242, s243, s244, s245, s246, s247, s248, s249, s250, s251, s252, s253, s254, s255, s256, s257, s258, s259, s260, s261, s262, s263, s264, s265, s266, s267, s268, s269, s270, s271, s272, s273, s274, s275, s276, s277, s278, s279, s280, s281, s282, s283, s284, s285, s286, s287, s288, s289, s290, s291, s292, s293, s294, s295, s296, s297, s298, s299, s300, s301, s302, s303, s304, s305, s306, s307, s308, s309, s310, s311, s312, s313, s314, s315, s316, s317, s318, s319, s320, s321, s322, s323, s324, s325, s326, s327, s328, s329, s330, s331, s332, s333, s334, s335, s336, s337, s338, s339, s340, s341, s342, s343, s344, s345, s346], []⟩ w1 := by
  conv => arg 2; whnf
  conv => arg 4; zeta
  cases ok with
  | false =>
    go_wp2_with fail
    go_ret
    exact ⟨rfl, G⟩
  | true =>
    obtain ⟨hp, hbk, hsc, hse, -⟩ := first_facts HF.out
    have hle := HE.out rfl
    have Hbk := Lib.hid hbk
    have T1 := i_IsSchedule AW cW W AL cL L AF cF F w1 hlW rdW hcW hlL rdL hcL hlF rdF hcF
    rw [hsc] at T1
    have T1 := Lib.hid T1
    have T2 := fun W A c h h2 => i_ScheduleEnd A c F W hlF h h2
    have T3 := fun W A c h h2 => s_ScheduleEnd A c F W hlF h h2
    rw [hse] at T2 T3
    have T2 := Lib.hid T2
    have T3 := Lib.hid T3
    have e1 : decide (E ≤ endF F) = true := by simp; omega
    have e2 : ((endF F) == (endF F)) = true := by simp
    clear hp hbk hsc hse HE HF
    go_wp2_with fail
    refine T1.out.mono ?_
    rintro _ w2 ⟨rfl, hb2⟩
    dsimp only
    go_wp2_with fail
    refine (T2.out _ _ _ (rdF.gw hb2) hcF).mono ?_
    rintro _ w3 ⟨rfl, hb3⟩
    have g3 := hb2.trans hb3
    dsimp only
    go_wp2_with fail
    refine (T3.out _ _ _ (rdG.gw g3) hcG).mono ?_
    rintro _ w4 ⟨rfl, hb4⟩
    have g4 := g3.trans hb4
    dsimp only
    go_wp2_with fail
    refine (i_AreBooked _ _ _ _ hlF (rdF.gw g4) hcF).mono ?_
    rintro _ w5 (⟨hp, rfl, hb5⟩ | ⟨hp, rfl, hb5⟩)
    case inr => exact absurd Hbk.out hp
    clear hp
    go_wp2_with fail
    go_ret
    exact ⟨by simp, G.trans (g4.trans hb5)⟩
end Go.Proofs.Ytipndibiioajmaa
namespace Go.Proofs.Ytipndibiioajmaa
open Go.ChangeShapes Go.WideShapes Go.ChangeAt Go.RowKit
set_option linter.unusedVariables false
set_option maxHeartbeats 16000000 in
set_option maxRecDepth 100000 in
theorem fs12 {w w1 : World} {AW AL AF AG : Option Addr} {cW cL cF cG : Nat} {W : List W3} {L : List R2} {F : List B4} {ok : Bool} {E : Int} {AO : Option Addr} {cO : Nat} {O : List Int} {one : Bool} {s0 s1 s2 s3 s4 s10 s11 s12 s16 s17 s18 s19 s20 s21 s22 s23 s24 s25 s26 s27 s28 s29 s30 s31 s32 s33 s34 s35 s36 s37 s38 s39 s40 s41 s42 s43 s44 s45 s46 s47 s48 s49 s50 s51 s52 s53 s54 s55 s56 s57 s58 s59 s60 s61 s62 s63 s64 s65 s66 s67 s68 s69 s70 s71 s72 s73 s74 s75 s76 s77 s78 s79 s80 s81 s82 s83 s84 s85 s86 s87 s88 s89 s90 s91 s92 s93 s94 s95 s96 s97 s98 s99 s100 s101 s102 s103 s104 s105 s106 s107 s108 s109 s110 s111 s112 s113 s114 s115 s116 s117 s118 s119 s120 s121 s122 s123 s124 s125 s126 s127 s128 s129 s130 s131 s132 s133 s134 s135 s136 s137 s138 s139 s140 s141 s142 s143 s144 s145 s146 s147 s148 s149 s150 s151 s152 s153 s154 s155 s156 s157 s158 s159 s160 s161 s162 s163 s164 s165 s166 s167 s168 s169 s170 s171 s172 s173 s174 s175 s176 s177 s178 s179 s180 s181 s182 s183 s184 s185 s186 s187 s188 s189 s190 s191 s192 s193 s194 s195 s196 s197 s198 s199 s200 s201 s202 s203 s204 s205 s206 s207 s208 s209 s210 s211 s212 s213 s214 s215 s216 s217 s218 s219 s220 s221 s222 s223 s224 s225 s226 s227 s228 s229 s230 s231 s232 s233 s234 s235 s236 s237 s238 s239 s240 s241 s242 s243 s244 s245 s246 s247 s248 s249 s250 s251 s252 s253 s254 s255 s256 s257 s258 s259 s260 s261 s262 s263 s264 s265 s266 s267 s268 s269 s270 s271 s272 s273 s274 s275 s276 s277 s278 s279 s280 s281 s282 s283 s284 s285 s286 s287 s288 s289 s290 s291 s292 s293 s294 s295 s296 s297 s298 s299 s300 s301 s302 s303 s304 s305 s306 s307 s308 s309 s310 s311 s312 s313 s314 s315 s316 s317 s318 s319 s320 s321 s322 s323 s324 s325 s326 s327 s328 s329 s330 s331 s332 s333 s334 s335 s336 s337 s338 s339 s340 s341 s342 s343 s344 s345 s346 : Value} (rdW : Rd w1 AW W) (hcW : W.length ≤ cW) (hlW : W.length ≤ 1048576) (rdL : Rd w1 AL L) (hcL : L.length ≤ cL) (hlL : L.length ≤ 1048576) (rdF : Rd w1 AF F) (hcF : F.length ≤ cF) (hlF : F.length ≤ 1048576) (rdG : Rd w1 AG F) (hcG : F.length ≤ cG) (HF : Hid (planF W L = (F, ok))) (HE : Hid (ok = true → E ≤ endF F)) (rdO : Rd w1 AO O) (hlO : O.length ≤ 1048576) (HO : Hid (bestOF W L = (O, E, one))) (G : Gw w w1) :
    Code.wp Try.prog (Code.tailOf 12 (Try.f4.body.getD .skip)) (bodyPost Try.prog Try.f4 fun e w' => e = .returned (.bool true) ∧ Gw w w') ⟨#[s0, s1, s2, s3, s4, .slice AW W.length cW, .slice AL L.length cL, .slice AF F.length cF, .bool ok, .slice AG F.length cG, s10, s11, s12, .bool one, .slice AO O.length cO, .int .i64 E, s16, s17, s18, s19, s20, s21, s22, s23, s24, s25, s26, s27, s28, s29, s30, s31, s32, s33, s34, s35, s36, s37, s38, s39, s40, s41, s42, s43, s44, s45, s46, s47, s48, s49, s50, s51, s52, s53, s54, s55, s56, s57, s58, s59, s60, s61, s62, s63, s64, s65, s66, s67, s68, s69, s70, s71, s72, s73, s74, s75, s76, s77, s78, s79, s80, s81, s82, s83, s84, s85, s86, s87, s88, s89, s90, s91, s92, s93, s94, s95, s96, s97, s98, s99, s100, s101, s102, s103, s104, s105, s106, s107, s108, s109, s110, s111, s112, s113, s114, s115, s116, s117, s118, s119, s120, s121, s122, s123, s124, s125, s126, s127, s128, s129, s130, s131, s132, s133, s134, s135, s136, s137, s138, s139, s140, s141, s142, s143, s144, s145, s146, s147, s148, s149, s150, s151, s152, s153, s154, s155, s156, s157, s158, s159, s160, s161, s162, s163, s164, s165, s166, s167, s168, s169, s170, s171, s172, s173, s174, s175, s176, s177, s178, s179, s180, s181, s182, s183, s184, s185, s186, s187, s188, s189, s190, s191, s192, s193, s194, s195, s196, s197, s198, s199, s200, s201, s202, s203, s204, s205, s206, s207, s208, s209, s210, s211, s212, s213, s214, s215, s216, s217, s218, s219, s220, s221, s222, s223, s224, s225, s226, s227, s228, s229, s230, s231, s232, s233, s234, s235, s236, s237, s238, s239, s240, s241, s242, s243, s244, s245, s246, s247, s248, s249, s250, s251, s252, s253, s254, s255, s256, s257, s258, s259, s260, s261, s262, s263, s264, s265, s266, s267, s268, s269, s270, s271, s272, s273, s274, s275, s276, s277, s278, s279, s280, s281, s282, s283, s284, s285, s286, s287, s288, s289, s290, s291, s292, s293, s294, s295, s296, s297, s298, s299, s300, s301, s302, s303, s304, s305, s306, s307, s308, s309, s310, s311, s312, s313, s314, s315, s316, s317, s318, s319, s320, s321, s322, s323, s324, s325, s326, s327, s328, s329, s330, s331, s332, s333, s334, s335, s336, s337, s338, s339, s340, s341, s342, s343, s344, s345, s346], []⟩ w1 := by
  conv => arg 2; whnf
  conv => arg 4; zeta
  cases one with
  | false =>
    repeat (first | (go_at_K; go_step; exact fs13 rdW hcW hlW rdL hcL hlL rdF hcF hlF rdG hcG HF HE G) | go_step)
  | true =>
    obtain ⟨i0, hi, hz0, hz1, hz2⟩ := info_parts infoRehearsal
    obtain ⟨hp, hOL, hin, S, hpl, hSl, hse⟩ := best_facts HO.out
    have Hin := Lib.hid hin
    have HOL := Lib.hid hOL
    have hn6 := hp.2.2
    have e1 : ((O.length : Int) != (L.length : Int)) = false := by simp; omega
    have e0 : decide ((O.length : Int) = (L.length : Int)) = true := by simp; omega
    have e2 : (E != E) = false := by simp
    have hSl' : S.length ≤ 1048576 := by omega
    have hO6 : O.length ≤ 6 := by omega
    have TI := fun u A (c : Nat) B (d : Nat) (h1 : Rd u A W) (h2 : W.length ≤ c) (h3 : Rd u B (pickR L O)) (h4 : (pickR L O).length ≤ d) => i_FirstSchedule A c W B d (pickR L O) u hlW h1 h2 (by rw [pickR_len]; omega) h3 h4
    have TS := fun u A (c : Nat) B (d : Nat) (h1 : Rd u A W) (h2 : W.length ≤ c) (h3 : Rd u B (pickR L O)) (h4 : (pickR L O).length ≤ d) => s_FirstSchedule A c W B d (pickR L O) u hlW h1 h2 (by rw [pickR_len]; omega) h3 h4
    have TE := fun W A c h h2 => i_ScheduleEnd A c S W hSl' h h2
    rw [hpl] at TI TS
    rw [hse] at TE
    have TI := Lib.hid TI
    have TS := Lib.hid TS
    have TE := Lib.hid TE
    have hwz := G.size
    clear hp hOL hin hpl hse HO
    go_wp2_with fail
    go_loopw [38, 40, 247] (fun o _ q wr => ∃ (j : Nat) (D : Option Addr) (d : Nat) (acc : List (Int × Int)), q = .int .i64 j ∧ j ≤ O.length ∧ o = .slice D acc.length d ∧ acc.length ≤ j ∧ Hid (acc = pickR L (O.take j)) ∧ wr.ownsRow w1.heap.size 59 2 (.slice D acc.length d) acc.length (flat acc) ∧ Gw w1 wr) (fun _ _ q _ => O.length - (intOf q).toNat)
    case atStart => exact ⟨0, none, 0, [], by go_num, Nat.zero_le _, rfl, by simp, rfl, World.ownsRow_nil _ _ _ _, Gw.refl _⟩
    case round =>
      obtain ⟨j, D, dd, acc, rfl, hj, rfl, hal, hacc, hown, hg2⟩ := hrel
      have hgz2 := hg2.size
      by_cases hjn : j < O.length
      · obtain ⟨x, hx⟩ := get_of_lt hjn
        have hxb := Hin.out x (mem_of_get hx)
        obtain ⟨q, rfl⟩ : ∃ q : Nat, x = q := ⟨x.toNat, by omega⟩
        have hqn : q < L.length := by omega
        have hpk := Lib.hid (pickR_take (L := L) hx)
        obtain ⟨b1, off1, rfl, hb1', e0'⟩ := (rdO.gw hg2).get1 hx
        obtain ⟨y, hy⟩ := get_of_lt hqn
        obtain ⟨b2', off2, rfl, hb2', f0, f1⟩ := (rdL.gw hg2).get2 hy
        have hyd : L.getD ((q : Nat) : Int).toNat (0, 0) = y := by
          rw [Int.toNat_natCast, List.getD_eq_getElem?_getD, hy]
          rfl
        have hpk2 : Hid (pickR L (O.take (j + 1)) = pickR L (O.take j) ++ [y]) := by unfold Hid; rw [hpk.out, hyd]
        clear hx hy hyd hpk hxb
        obtain ⟨y1, y2⟩ := y
        dsimp only at f0 f1
        go_wp2_with (at_builtin; go_loud (refine wpList_push (α := Int × Int) rfl (.tmp 251) (.tmp 256) 31 rfl w1.heap.size 59 i0 _ 16 Try.underlying31 hi hz0 hz1 hz2 rfl (by omega) acc D dd rfl wr (y1, y2) rfl _ rfl rfl hown (by omega) hgz2 ?_); intro acc' A' c'' w9 hacc' hl1 hl2 hown' _ hgg)
        go_roundw
        case rel => exact ⟨j + 1, A', c'', acc', by go_num, by omega, rfl, by omega, by unfold Hid; rw [hacc'.out, hpk2.out, hacc.out], hown', hgg w1 hg2 (Nat.le_refl _)⟩
        case measure => simp [intOf]; omega
      · obtain rfl : acc = pickR L O := by rw [hacc.out, List.take_of_length_le (by omega)]
        have hcD := own_cap2 hown
        have rdD := own_rd (α := Int × Int) hown
        have rdW := rdW.gw hg2
        have rdL := rdL.gw hg2
        have rdF := rdF.gw hg2
        have rdG := rdG.gw hg2
        have G2 := G.trans hg2
        clear hown hacc
        go_wp2_with fail
        refine (TI.out _ _ _ _ _ rdW hcW rdD hcD).mono ?_
        rintro _ w3 ⟨A3, c3, rfl, own3, hb3⟩
        have hc3 := own_cap2 own3
        dsimp only
        go_wp2_with fail
        refine (TS.out _ _ _ _ _ (rdW.gw hb3) hcW (rdD.gw hb3) hcD).mono ?_
        rintro _ w4 ⟨A4, c4, rfl, own4, hb4⟩
        have g4 := hb3.trans hb4
        have rd3 := (own_rd (α := B4) own3).gw hb4
        have rd4 := own_rd (α := B4) own4
        dsimp only
        go_wp2_with fail
        refine (TE.out _ _ _ rd3 hc3).mono ?_
        rintro _ w5 ⟨rfl, hb5⟩
        have g5 := g4.trans hb5
        dsimp only
        go_wp2_with fail
        refine (l_qBooked _ _ _ _ _ _ hSl' (rd3.gw hb5) (rd4.gw hb5)).mono ?_
        rintro _ w6 ⟨rfl, hb6⟩
        have g6 := g5.trans hb6
        dsimp only
        repeat (first | (go_at_K; go_step; exact fs13 (rdW.gw g6) hcW hlW (rdL.gw g6) hcL hlL (rdF.gw g6) hcF hlF (rdG.gw g6) hcG HF HE (G2.trans g6)) | go_step)
end Go.Proofs.Ytipndibiioajmaa
namespace Go.Proofs.Ytipndibiioajmaa
open Go.ChangeShapes Go.WideShapes Go.ChangeAt Go.RowKit
set_option linter.unusedVariables false
theorem takenN_le (a : List W3) (s : List B4) (p : Nat) : ∀ k, takenN a s p k ≤ k
  | 0 => Nat.le_refl _
  | k + 1 => by
    have := takenN_le a s p k
    rw [taken_step]
    split <;> omega
set_option maxHeartbeats 16000000 in
set_option maxRecDepth 100000 in
theorem fs11 {w w1 : World} {AW AL AF AG : Option Addr} {cW cL cF cG : Nat} {W : List W3} {L : List R2} {F : List B4} {ok : Bool} {E : Int} {AO : Option Addr} {cO : Nat} {O : List Int} {one : Bool} {Aa As AP AQ : Option Addr} {ca cs cP cQ : Nat} {a : List W3} {s : List B4} {P : List W3} {three : Bool} {s0 s1 s2 s3 s4 s10 s11 s12 s16 s22 s23 s24 s25 s26 s27 s28 s29 s30 s31 s32 s33 s34 s35 s36 s37 s38 s39 s40 s41 s42 s43 s44 s45 s46 s47 s48 s49 s50 s51 s52 s53 s54 s55 s56 s57 s58 s59 s60 s61 s62 s63 s64 s65 s66 s67 s68 s69 s70 s71 s72 s73 s74 s75 s76 s77 s78 s79 s80 s81 s82 s83 s84 s85 s86 s87 s88 s89 s90 s91 s92 s93 s94 s95 s96 s97 s98 s99 s100 s101 s102 s103 s104 s105 s106 s107 s108 s109 s110 s111 s112 s113 s114 s115 s116 s117 s118 s119 s120 s121 s122 s123 s124 s125 s126 s127 s128 s129 s130 s131 s132 s133 s134 s135 s136 s137 s138 s139 s140 s141 s142 s143 s144 s145 s146 s147 s148 s149 s150 s151 s152 s153 s154 s155 s156 s157 s158 s159 s160 s161 s162 s163 s164 s165 s166 s167 s168 s169 s170 s171 s172 s173 s174 s175 s176 s177 s178 s179 s180 s181 s182 s183 s184 s185 s186 s187 s188 s189 s190 s191 s192 s193 s194 s195 s196 s197 s198 s199 s200 s201 s202 s203 s204 s205 s206 s207 s208 s209 s210 s211 s212 s213 s214 s215 s216 s217 s218 s219 s220 s221 s222 s223 s224 s225 s226 s227 s228 s229 s230 s231 s232 s233 s234 s235 s236 s237 s238 s239 s240 s241 s242 s243 s244 s245 s246 s247 s248 s249 s250 s251 s252 s253 s254 s255 s256 s257 s258 s259 s260 s261 s262 s263 s264 s265 s266 s267 s268 s269 s270 s271 s272 s273 s274 s275 s276 s277 s278 s279 s280 s281 s282 s283 s284 s285 s286 s287 s288 s289 s290 s291 s292 s293 s294 s295 s296 s297 s298 s299 s300 s301 s302 s303 s304 s305 s306 s307 s308 s309 s310 s311 s312 s313 s314 s315 s316 s317 s318 s319 s320 s321 s322 s323 s324 s325 s326 s327 s328 s329 s330 s331 s332 s333 s334 s335 s336 s337 s338 s339 s340 s341 s342 s343 s344 s345 s346 : Value} (rdW : Rd w1 AW W) (hcW : W.length ≤ cW) (hlW : W.length ≤ 1048576) (rdL : Rd w1 AL L) (hcL : L.length ≤ cL) (hlL : L.length ≤ 1048576) (rdF : Rd w1 AF F) (hcF : F.length ≤ cF) (hlF : F.length ≤ 1048576) (rdG : Rd w1 AG F) (hcG : F.length ≤ cG) (HF : Hid (planF W L = (F, ok))) (HE : Hid (ok = true → E ≤ endF F)) (rdO : Rd w1 AO O) (hlO : O.length ≤ 1048576) (HO : Hid (bestOF W L = (O, E, one))) (rda : Rd w1 Aa a) (hla : a.length ≤ 1048576) (rds : Rd w1 As s) (hcs : s.length ≤ cs) (hls : s.length ≤ 1048576) (rdP : Rd w1 AP P) (rdQ : Rd w1 AQ P) (hlP : P.length ≤ 1048576) (HP : Hid (freeF a s = (P, three))) (G : Gw w w1) :
    Code.wp Try.prog (Code.tailOf 11 (Try.f4.body.getD .skip)) (bodyPost Try.prog Try.f4 fun e w' => e = .returned (.bool true) ∧ Gw w w') ⟨#[s0, s1, s2, s3, s4, .slice AW W.length cW, .slice AL L.length cL, .slice AF F.length cF, .bool ok, .slice AG F.length cG, s10, s11, s12, .bool one, .slice AO O.length cO, .int .i64 E, s16, .slice Aa a.length ca, .slice As s.length cs, .slice AP P.length cP, .bool three, .slice AQ P.length cQ, s22, s23, s24, s25, s26, s27, s28, s29, s30, s31, s32, s33, s34, s35, s36, s37, s38, s39, s40, s41, s42, s43, s44, s45, s46, s47, s48, s49, s50, s51, s52, s53, s54, s55, s56, s57, s58, s59, s60, s61, s62, s63, s64, s65, s66, s67, s68, s69, s70, s71, s72, s73, s74, s75, s76, s77, s78, s79, s80, s81, s82, s83, s84, s85, s86, s87, s88, s89, s90, s91, s92, s93, s94, s95, s96, s97, s98, s99, s100, s101, s102, s103, s104, s105, s106, s107, s108, s109, s110, s111, s112, s113, s114, s115, s116, s117, s118, s119, s120, s121, s122, s123, s124, s125, s126, s127, s128, s129, s130, s131, s132, s133, s134, s135, s136, s137, s138, s139, s140, s141, s142, s143, s144, s145, s146, s147, s148, s149, s150, s151, s152, s153, s154, s155, s156, s157, s158, s159, s160, s161, s162, s163, s164, s165, s166, s167, s168, s169, s170, s171, s172, s173, s174, s175, s176, s177, s178, s179, s180, s181, s182, s183, s184, s185, s186, s187, s188, s189, s190, s191, s192, s193, s194, s195, s196, s197, s198, s199, s200, s201, s202, s203, s204, s205, s206, s207, s208, s209, s210, s211, s212, s213, s214, s215, s216, s217, s218, s219, s220, s221, s222, s223, s224, s225, s226, s227, s228, s229, s230, s231, s232, s233, s234, s235, s236, s237, s238, s239, s240, s241, s242, s243, s244, s245, s246, s247, s248, s249, s250, s251, s252, s253, s254, s255, s256, s257, s258, s259, s260, s261, s262, s263, s264, s265, s266, s267, s268, s269, s270, s271, s272, s273, s274, s275, s276, s277, s278, s279, s280, s281, s282, s283, s284, s285, s286, s287, s288, s289, s290, s291, s292, s293, s294, s295, s296, s297, s298, s299, s300, s301, s302, s303, s304, s305, s306, s307, s308, s309, s310, s311, s312, s313, s314, s315, s316, s317, s318, s319, s320, s321, s322, s323, s324, s325, s326, s327, s328, s329, s330, s331, s332, s333, s334, s335, s336, s337, s338, s339, s340, s341, s342, s343, s344, s345, s346], []⟩ w1 := by
  conv => arg 2; whnf
  conv => arg 4; zeta
  cases three with
  | false =>
    repeat (first | (go_at_K; go_step; exact fs12 rdW hcW hlW rdL hcL hlL rdF hcF hlF rdG hcG HF HE rdO hlO HO G) | go_step)
  | true =>
    obtain ⟨hWa, hBs, hWP, hct⟩ := free_facts HP.out
    have Hct := Lib.hid hct
    have HWa := Lib.hid hWa
    have HBs := Lib.hid hBs
    have HWP := Lib.hid hWP
    clear hct hWa hBs hWP HP
    go_wp2_with fail
    go_loopw [23, 24, 25, 26, 27, 28, 29, 30, 31, 32, 33, 34, 35, 36, 37] (fun q _ _ _ _ _ _ _ _ _ _ _ _ _ _ wr => ∃ p : Nat, q = .int .i64 p ∧ 1 ≤ p ∧ p ≤ 10 ∧ Gw w1 wr) (fun q _ _ _ _ _ _ _ _ _ _ _ _ _ _ _ => 10 - (intOf q).toNat)
    case atStart => exact ⟨1, by go_num, by omega, by omega, Gw.refl _⟩
    case round =>
      obtain ⟨wo, rfl⟩ : ∃ wo : World, wo = wr := ⟨_, rfl⟩
      obtain ⟨p, rfl, hp1, hp2, hg⟩ := hrel
      by_cases hlt : p < 10
      · have hr : InR (p : Int) 1 9 := ⟨by omega, by omega⟩
        have hcp := Hct.out p hp1 (by omega)
        have TA := fun u A c h => i_HoursOf A c a (p : Int) u hla h
        have TB := fun u A c h => s_HoursOf A c a (p : Int) u hla h
        have TC := fun u A c h => i_HoursOf A c P (p : Int) u hlP h
        have TD := fun u A c h => s_HoursOf A c P (p : Int) u hlP h
        rw [hoursV_yes ⟨HWa.out, hr⟩] at TA TB
        rw [hoursV_yes ⟨HWP.out, hr⟩] at TC TD
        have hyb := hoursS_bd HWP.out.1 (p : Int)
        generalize hoursS (p : Int) a = x at *
        generalize hoursS (p : Int) P = y at *
        have TA := Lib.hid TA
        have TB := Lib.hid TB
        have TC := Lib.hid TC
        have TD := Lib.hid TD
        have Hcp := Lib.hid hcp
        have Hr := Lib.hid hr
        have htb := takenN_le a s p 168
        have wy : IntKind.i64.wrap (y + (takenN a s p 168 : Int)) = x := by rw [hcp]; exact IntWalk.i64_in _ (by omega)
        have ex : (x != x) = false := by simp
        have ey : (y != y) = false := by simp
        clear hcp hr hyb
        go_wp2_with fail
        refine (TA.out _ _ _ (rda.gw hg)).mono ?_
        rintro _ w2 ⟨rfl, hb2⟩
        have g2 := hg.trans hb2
        dsimp only
        go_wp2_with fail
        refine (TB.out _ _ _ (rda.gw g2)).mono ?_
        rintro _ w3 ⟨rfl, hb3⟩
        have g3 := g2.trans hb3
        dsimp only
        go_wp2_with fail
        refine (TC.out _ _ _ (rdP.gw g3)).mono ?_
        rintro _ w4 ⟨rfl, hb4⟩
        have g4 := g3.trans hb4
        dsimp only
        go_wp2_with fail
        refine (TD.out _ _ _ (rdQ.gw g4)).mono ?_
        rintro _ w5 ⟨rfl, hb5⟩
        have g5 := g4.trans hb5
        clear TA TB TC TD g2 g3 g4 hb2 hb3 hb4 hb5
        dsimp only
        go_wp2_with fail
        go_loopw [32, 33, 34, 35, 36, 37] (fun t q _ _ _ _ wr => ∃ k : Nat, q = .int .i64 k ∧ k ≤ 168 ∧ t = .int .i64 (takenN a s p k : Int) ∧ Gw w1 wr) (fun _ q _ _ _ _ _ => 168 - (intOf q).toNat)
        case atStart => exact ⟨0, by go_num, by omega, rfl, g5⟩
        case round =>
          obtain ⟨k, rfl, hk, rfl, hg6⟩ := hrel
          by_cases hkl : k < 168
          · have hh : InR (k : Int) 0 167 := ⟨by omega, by omega⟩
            have hw := who_any HBs.out Hr.out hh
            have ho := openF_mem (p := (p : Int)) HWa.out hh
            have hoy := openF_yes HWa.out hh
            rw [← tabOf_open] at ho
            have hol : (openF a (k : Int)).1.length ≤ 1048576 := openF_len a (k : Int)
            have ho2 : (openF a (k : Int)).2 = true := by rw [hoy]
            have hst := taken_step (a := a) (s := s) (p := p) (k := k)
            have hkb := takenN_le a s p k
            have TW := fun u A (c : Nat) h1 (h2 : s.length ≤ c) => s_WhoRehearses A c s (p : Int) (k : Int) u hls h1 h2
            have TO := fun u A c h1 => s_OpenPlaces A c a (k : Int) u hla h1
            rw [hw] at TW
            rw [ho2] at TO
            generalize (whoF s (p : Int) (k : Int)).1 = z at *
            generalize (openF a (k : Int)).1 = pl at *
            generalize s.any (atP (p : Int) (k : Int)) = bz at *
            generalize takenN a s p k = tk at *
            have TW := Lib.hid TW
            have TO := Lib.hid TO
            have Ho := Lib.hid ho
            have Hst := Lib.hid hst
            have wk : IntKind.i64.wrap ((tk : Int) + 1) = ((tk + 1 : Nat) : Int) := by rw [IntWalk.i64_in _ (by omega)]; omega
            clear hw ho hoy ho2 hst hh
            go_wp2_with fail
            refine (TW.out _ _ _ (rds.gw hg6) hcs).mono ?_
            rintro _ w7 ⟨rfl, hb7⟩
            have g7 := hg6.trans hb7
            dsimp only
            go_wp2_with fail
            refine (TO.out _ _ _ (rda.gw g7)).mono ?_
            rintro _ w8 ⟨A8, c8, rfl, own8, hb8⟩
            have g8 := g7.trans hb8
            have rd8 := own_rd (α := Int) own8
            dsimp only
            cases bz with
            | false =>
              have Hn : Hid (takenN a s p (k + 1) = tk) := by unfold Hid; rw [Hst.out]; simp
              go_wp2_with fail
              go_roundw
              case rel => exact ⟨k + 1, by go_num, by omega, by rw [Hn.out], g8⟩
              case measure => simp [intOf]; omega
            | true =>
              go_wp2_with fail
              refine (l_qHas _ _ _ _ _ hol rd8).mono ?_
              rintro _ w9 (⟨hp, rfl, hb9⟩ | ⟨hp, rfl, hb9⟩)
              · have Hn : Hid (takenN a s p (k + 1) = tk + 1) := by unfold Hid; rw [Hst.out]; simp [Ho.out.1 hp]
                clear hp
                go_wp2_with fail
                go_roundw
                case rel => exact ⟨k + 1, by go_num, by omega, (by rw [Hn.out] <;> first | rfl | go_num), g8.trans hb9⟩
                case measure => simp [intOf]; omega
              · have hf : ¬tabOf a p k = true := fun h => hp (Ho.out.2 h)
                have Hn : Hid (takenN a s p (k + 1) = tk) := by unfold Hid; rw [Hst.out]; simp [hf]
                clear hp hf
                go_wp2_with fail
                go_roundw
                case rel => exact ⟨k + 1, by go_num, by omega, (by rw [Hn.out] <;> first | rfl | go_num), g8.trans hb9⟩
                case measure => simp [intOf]; omega
          · obtain rfl : k = 168 := by omega
            go_wp2_with fail
            go_roundw
            case rel => exact ⟨p + 1, by go_num, by omega, by omega, hg6⟩
            case measure => simp [intOf]; omega
      · obtain rfl : p = 10 := by omega
        repeat (first | (go_at_K; go_step; exact fs12 (rdW.gw hg) hcW hlW (rdL.gw hg) hcL hlL (rdF.gw hg) hcF hlF (rdG.gw hg) hcG HF HE (rdO.gw hg) hlO HO (G.trans hg)) | go_step)
end Go.Proofs.Ytipndibiioajmaa
