/-
  FnBooked: what is left of its text behind some statements.
-/
import Derived.Test.YtgbgmmdpldekbaaDoorFkB
namespace Go.Proofs.YtgbgmmdpldekbaaDoor
open Go.ChangeShapes Go.WideShapes Go.ChangeAt Go.RowKit
set_option linter.unusedVariables false
set_option maxHeartbeats 8000000 in
set_option maxRecDepth 100000 in
theorem bk17 {w w1 : World} {AW AL AS : Option Addr} {cw cl cs : Nat} {W : List W3} {L : List R2} {S : List B4} {ok is : Bool} {AA : Option Addr} {ca : Nat} {a : List B4} {one : Bool} {fin : Int} {AC : Option Addr} {cc : Nat} {c : List B4} {sec hours : Int} {seven : Bool} {s0 s1 s2 s3 s4 s8 s11 s13 s15 s16 s17 s18 s20 s21 s22 s23 s24 s25 s26 s27 s30 s33 s34 s35 s36 s37 s38 s39 s40 s41 s42 s43 s44 s45 s46 s47 s48 s49 s50 s51 s52 s53 s54 s55 s56 s57 s58 s59 s60 s61 s62 s63 s64 s65 s66 s67 s68 s69 s70 s71 s72 s73 s74 s75 s76 s77 s78 s79 s80 s81 s82 s83 s84 s85 s86 s87 s88 s89 s90 s91 s92 s93 s94 s95 s96 s97 s98 s99 s100 s101 s102 s103 s104 s105 s106 s107 s108 s109 s110 s111 s112 s113 s114 s115 s116 s117 s118 s119 s120 s121 s122 s123 s124 s125 s126 s127 s128 s129 s130 s131 s132 s133 s134 s135 s136 s137 s138 s139 s140 s141 s142 s143 s144 s145 s146 s147 s148 s149 s150 s151 s152 s153 s154 s155 s156 s157 s158 s159 s160 s161 s162 s163 s164 s165 s166 s167 s168 s169 s170 s171 s172 s173 s174 s175 s176 s177 s178 s179 s180 s181 s182 s183 s184 s185 s186 s187 s188 s189 s190 s191 s192 s193 s194 s195 s196 s197 s198 s199 s200 s201 s202 s203 s204 s205 s206 s207 s208 s209 s210 s211 s212 s213 s214 s215 s216 s217 s218 s219 s220 s221 s222 s223 s224 s225 s226 s227 s228 s229 s230 s231 s232 s233 s234 s235 s236 s237 s238 s239 s240 s241 s242 s243 s244 s245 s246 s247 s248 s249 s250 s251 s252 s253 s254 s255 s256 s257 s258 s259 s260 s261 s262 s263 s264 s265 s266 s267 s268 s269 s270 s271 s272 s273 s274 s275 s276 s277 s278 s279 s280 s281 s282 s283 s284 s285 s286 s287 s288 s289 s290 s291 s292 s293 s294 s295 s296 s297 s298 s299 s300 s301 s302 s303 s304 s305 s306 s307 s308 s309 s310 s311 s312 s313 s314 s315 s316 s317 s318 s319 s320 s321 s322 s323 s324 : Value} (hlW : W.length ≤ 1048576) (hlL : L.length ≤ 1048576) (hlS : S.length ≤ 1048576) (hcs : S.length ≤ cs) (rdW : Rd w1 AW W) (rdL : Rd w1 AL L) (rdS : Rd w1 AS S) (FC : Hid (ok = true → is = true → WinsP W ∧ RehP L ∧ BookP S ∧ SchedP W L S)) (hla : a.length ≤ 1048576) (hca : a.length ≤ ca) (rda : Rd w1 AA a) (FB : Hid (one = true → BookP a ∧ fin = endF a)) (hlc : c.length ≤ 1048576) (hcc : c.length ≤ cc) (rdc : Rd w1 AC c) (FA : Hid (seven = true → BookP c ∧ hours = sumH sec c)) (G : Gw w w1) :
    Code.wp Tryd.prog (Code.tailOf 17 (Tryd.f3.body.getD .skip)) (bodyPost Tryd.prog Tryd.f3 fun e w' => e = .returned (.bool true) ∧ Gw w w') ⟨#[s0, s1, s2, s3, s4, .slice AW W.length cw, .slice AL L.length cl, .slice AS S.length cs, s8, .bool ok, .bool is, s11, .slice AA a.length ca, s13, .bool one, s15, s16, s17, s18, .int .i64 fin, s20, s21, s22, s23, s24, s25, s26, s27, .slice AC c.length cc, .int .i64 sec, s30, .bool seven, .int .i64 hours, s33, s34, s35, s36, s37, s38, s39, s40, s41, s42, s43, s44, s45, s46, s47, s48, s49, s50, s51, s52, s53, s54, s55, s56, s57, s58, s59, s60, s61, s62, s63, s64, s65, s66, s67, s68, s69, s70, s71, s72, s73, s74, s75, s76, s77, s78, s79, s80, s81, s82, s83, s84, s85, s86, s87, s88, s89, s90, s91, s92, s93, s94, s95, s96, s97, s98, s99, s100, s101, s102, s103, s104, s105, s106, s107, s108, s109, s110, s111, s112, s113, s114, s115, s116, s117, s118, s119, s120, s121, s122, s123, s124, s125, s126, s127, s128, s129, s130, s131, s132, s133, s134, s135, s136, s137, s138, s139, s140, s141, s142, s143, s144, s145, s146, s147, s148, s149, s150, s151, s152, s153, s154, s155, s156, s157, s158, s159, s160, s161, s162, s163, s164, s165, s166, s167, s168, s169, s170, s171, s172, s173, s174, s175, s176, s177, s178, s179, s180, s181, s182, s183, s184, s185, s186, s187, s188, s189, s190, s191, s192, s193, s194, s195, s196, s197, s198, s199, s200, s201, s202, s203, s204, s205, s206, s207, s208, s209, s210, s211, s212, s213, s214, s215, s216, s217, s218, s219, s220, s221, s222, s223, s224, s225, s226, s227, s228, s229, s230, s231, s232, s233, s234, s235, s236, s237, s238, s239, s240, s241, s242, s243, s244, s245, s246, s247, s248, s249, s250, s251, s252, s253, s254, s255, s256, s257, s258, s259, s260, s261, s262, s263, s264, s265, s266, s267, s268, s269, s270, s271, s272, s273, s274, s275, s276, s277, s278, s279, s280, s281, s282, s283, s284, s285, s286, s287, s288, s289, s290, s291, s292, s293, s294, s295, s296, s297, s298, s299, s300, s301, s302, s303, s304, s305, s306, s307, s308, s309, s310, s311, s312, s313, s314, s315, s316, s317, s318, s319, s320, s321, s322, s323, s324], []⟩ w1 := by
  conv => arg 2; whnf
  conv => arg 4; zeta
  cases seven
  · clear FA
    repeat (first | (go_at_K; go_step; exact bk18 hlW hlL hlS hcs rdW rdL rdS FC hla hca rda FB G) | go_step)
  obtain ⟨hP, rfl⟩ := FA.out rfl
  have HP := Lib.hid hP
  have Hsum : Hid (sumH sec c = (tot (wcell c sec) 9 : Int)) := hours_count _ c rfl hP
  clear hP FA
  go_wp2_with fail
  go_loopw [34, 35, 36, 37, 38] (fun q p _ _ _ wr => ∃ P : Nat, p = .int .i64 ((P : Int) + 1) ∧ P ≤ 9 ∧ q = .int .i64 (tot (wcell c sec) P : Nat) ∧ Gw w1 wr) (fun _ p _ _ _ _ => 10 - (intOf p).toNat)
  case atStart => exact ⟨0, by go_num, Nat.zero_le _, rfl, Gw.refl _⟩
  case round =>
    obtain ⟨P, rfl, hP9, rfl, hg⟩ := hrel
    have hT := tot_bd (wcell c sec) P
    obtain ⟨T, hTT⟩ : ∃ T, Hid (tot (wcell c sec) P = T) := ⟨_, rfl⟩
    rw [hTT.out] at hT ⊢
    by_cases hlt : P < 9
    · go_wp2_with fail
      go_loopw [34, 36, 37, 38] (fun q h _ _ wi => ∃ k : Nat, h = .int .i64 k ∧ k ≤ 168 ∧ q = .int .i64 ((T + cnt (wcell c sec P) k : Nat) : Int) ∧ Gw wr wi) (fun _ h _ _ _ => 168 - (intOf h).toNat)
      case atStart => exact ⟨0, by go_num, Nat.zero_le _, rfl, Gw.refl _⟩
      case round =>
        obtain ⟨wi, rfl⟩ : ∃ wi : World, wi = wr := ⟨_, rfl⟩
        obtain ⟨k, rfl, hk, rfl, hgi⟩ := hrel
        have hcb := cnt_bd (wcell c sec P) k
        obtain ⟨M, hMM⟩ : ∃ M, Hid (cnt (wcell c sec P) k = M) := ⟨_, rfl⟩
        rw [hMM.out] at hcb ⊢
        by_cases hlk : k < 168
        · have hstep : Hid (cnt (wcell c sec P) (k + 1) = M + if wcell c sec P k = true then 1 else 0) := by unfold Hid; rw [← hMM.out]; rfl
          have hcell := who_cell (s := sec) HP.out hlt hlk
          go_wp2_with fail
          refine (s_WhoRehearses _ _ c ((P : Int) + 1) (k : Int) _ hlc (rdc.gw (hg.trans hgi)) hcc).mono ?_
          rintro _ w6 ⟨rfl, hb6⟩
          generalize whoF c ((P : Int) + 1) (k : Int) = q at *
          obtain ⟨ow, bu⟩ := q
          dsimp only at hcell ⊢
          cases bu with
          | false =>
            have hn : Hid (cnt (wcell c sec P) (k + 1) = M) := by unfold Hid; rw [hstep.out, hcell]; simp
            clear hstep hcell
            go_wp2_with fail
            go_roundw
            case rel => exact ⟨k + 1, by go_num, by omega, by rw [hn.out], hgi.trans hb6⟩
            case measure => simp [intOf]; omega
          | true =>
            by_cases hos : ow = sec
            · have hn : Hid (cnt (wcell c sec P) (k + 1) = M + 1) := by unfold Hid; rw [hstep.out, hcell]; simp [hos]
              have e1 : (ow == sec) = true := by simp [hos]
              have wq : IntKind.i64.wrap (((T + M : Nat) : Int) + 1) = ((T + (M + 1) : Nat) : Int) := by rw [IntWalk.i64_in _ (by omega)]; omega
              clear hstep hcell hos
              go_wp2_with fail
              go_roundw
              case rel => exact ⟨k + 1, by go_num, by omega, by rw [hn.out]; first | rfl | go_num, hgi.trans hb6⟩
              case measure => simp [intOf]; omega
            · have hn : Hid (cnt (wcell c sec P) (k + 1) = M) := by unfold Hid; rw [hstep.out, hcell]; simp [hos]
              have e1 : (ow == sec) = false := by simp [hos]
              clear hstep hcell hos
              go_wp2_with fail
              go_roundw
              case rel => exact ⟨k + 1, by go_num, by omega, by rw [hn.out], hgi.trans hb6⟩
              case measure => simp [intOf]; omega
        · obtain rfl : k = 168 := by omega
          have hn : Hid (tot (wcell c sec) (P + 1) = T + M) := by unfold Hid; rw [← hTT.out, ← hMM.out]; rfl
          go_wp2_with fail
          go_roundw
          case rel => exact ⟨P + 1, by go_num, by omega, by rw [hn.out], hg.trans hgi⟩
          case measure => simp [intOf]; omega
    · obtain rfl : P = 9 := by omega
      have hs : Hid (sumH sec c = (T : Int)) := by unfold Hid; rw [Hsum.out, hTT.out]
      rw [hs.out]
      have e1 : (((T : Nat) : Int) != ((T : Nat) : Int)) = false := by simp
      repeat (first | (go_at_K; go_step; exact bk18 hlW hlL hlS hcs (rdW.gw hg) (rdL.gw hg) (rdS.gw hg) FC hla hca (rda.gw hg) FB (G.trans hg)) | go_step)
end Go.Proofs.YtgbgmmdpldekbaaDoor
