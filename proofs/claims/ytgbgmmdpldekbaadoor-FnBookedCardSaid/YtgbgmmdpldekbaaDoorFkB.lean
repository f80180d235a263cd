/-
  FnBooked: what is left of its text behind some statements.
-/
import Derived.Test.YtgbgmmdpldekbaaDoorFkC
namespace Go.Proofs.YtgbgmmdpldekbaaDoor
open Go.ChangeShapes Go.WideShapes Go.ChangeAt Go.RowKit
set_option linter.unusedVariables false
set_option maxHeartbeats 8000000 in
set_option maxRecDepth 100000 in
theorem bk18 {w w1 : World} {AW AL AS : Option Addr} {cw cl cs : Nat} {W : List W3} {L : List R2} {S : List B4} {ok is : Bool} {AA : Option Addr} {ca : Nat} {a : List B4} {one : Bool} {fin : Int} {s0 s1 s2 s3 s4 s8 s11 s13 s15 s16 s17 s18 s20 s21 s22 s23 s24 s25 s26 s27 s28 s29 s30 s31 s32 s33 s34 s35 s36 s37 s38 s39 s40 s41 s42 s43 s44 s45 s46 s47 s48 s49 s50 s51 s52 s53 s54 s55 s56 s57 s58 s59 s60 s61 s62 s63 s64 s65 s66 s67 s68 s69 s70 s71 s72 s73 s74 s75 s76 s77 s78 s79 s80 s81 s82 s83 s84 s85 s86 s87 s88 s89 s90 s91 s92 s93 s94 s95 s96 s97 s98 s99 s100 s101 s102 s103 s104 s105 s106 s107 s108 s109 s110 s111 s112 s113 s114 s115 s116 s117 s118 s119 s120 s121 s122 s123 s124 s125 s126 s127 s128 s129 s130 s131 s132 s133 s134 s135 s136 s137 s138 s139 s140 s141 s142 s143 s144 s145 s146 s147 s148 s149 s150 s151 s152 s153 s154 s155 s156 s157 s158 s159 s160 s161 s162 s163 s164 s165 s166 s167 s168 s169 s170 s171 s172 s173 s174 s175 s176 s177 s178 s179 s180 s181 s182 s183 s184 s185 s186 s187 s188 s189 s190 s191 s192 s193 s194 s195 s196 s197 s198 s199 s200 s201 s202 s203 s204 s205 s206 s207 s208 s209 s210 s211 s212 s213 s214 s215 s216 s217 s218 s219 s220 s221 s222 s223 s224 s225 s226 s227 s228 s229 s230 s231 s232 s233 s234 s235 s236 s237 s238 s239 s240 s241 s242 s243 s244 s245 s246 s247 s248 s249 s250 s251 s252 s253 s254 s255 s256 s257 s258 s259 s260 s261 s262 s263 s264 s265 s266 s267 s268 s269 s270 s271 s272 s273 s274 s275 s276 s277 s278 s279 s280 s281 s282 s283 s284 s285 s286 s287 s288 s289 s290 s291 s292 s293 s294 s295 s296 s297 s298 s299 s300 s301 s302 s303 s304 s305 s306 s307 s308 s309 s310 s311 s312 s313 s314 s315 s316 s317 s318 s319 s320 s321 s322 s323 s324 : Value} (hlW : W.length ≤ 1048576) (hlL : L.length ≤ 1048576) (hlS : S.length ≤ 1048576) (hcs : S.length ≤ cs) (rdW : Rd w1 AW W) (rdL : Rd w1 AL L) (rdS : Rd w1 AS S) (FC : Hid (ok = true → is = true → WinsP W ∧ RehP L ∧ BookP S ∧ SchedP W L S)) (hla : a.length ≤ 1048576) (hca : a.length ≤ ca) (rda : Rd w1 AA a) (FB : Hid (one = true → BookP a ∧ fin = endF a)) (G : Gw w w1) :
    Code.wp Tryd.prog (Code.tailOf 18 (Tryd.f3.body.getD .skip)) (bodyPost Tryd.prog Tryd.f3 fun e w' => e = .returned (.bool true) ∧ Gw w w') ⟨#[s0, s1, s2, s3, s4, .slice AW W.length cw, .slice AL L.length cl, .slice AS S.length cs, s8, .bool ok, .bool is, s11, .slice AA a.length ca, s13, .bool one, s15, s16, s17, s18, .int .i64 fin, s20, s21, s22, s23, s24, s25, s26, s27, s28, s29, s30, s31, s32, s33, s34, s35, s36, s37, s38, s39, s40, s41, s42, s43, s44, s45, s46, s47, s48, s49, s50, s51, s52, s53, s54, s55, s56, s57, s58, s59, s60, s61, s62, s63, s64, s65, s66, s67, s68, s69, s70, s71, s72, s73, s74, s75, s76, s77, s78, s79, s80, s81, s82, s83, s84, s85, s86, s87, s88, s89, s90, s91, s92, s93, s94, s95, s96, s97, s98, s99, s100, s101, s102, s103, s104, s105, s106, s107, s108, s109, s110, s111, s112, s113, s114, s115, s116, s117, s118, s119, s120, s121, s122, s123, s124, s125, s126, s127, s128, s129, s130, s131, s132, s133, s134, s135, s136, s137, s138, s139, s140, s141, s142, s143, s144, s145, s146, s147, s148, s149, s150, s151, s152, s153, s154, s155, s156, s157, s158, s159, s160, s161, s162, s163, s164, s165, s166, s167, s168, s169, s170, s171, s172, s173, s174, s175, s176, s177, s178, s179, s180, s181, s182, s183, s184, s185, s186, s187, s188, s189, s190, s191, s192, s193, s194, s195, s196, s197, s198, s199, s200, s201, s202, s203, s204, s205, s206, s207, s208, s209, s210, s211, s212, s213, s214, s215, s216, s217, s218, s219, s220, s221, s222, s223, s224, s225, s226, s227, s228, s229, s230, s231, s232, s233, s234, s235, s236, s237, s238, s239, s240, s241, s242, s243, s244, s245, s246, s247, s248, s249, s250, s251, s252, s253, s254, s255, s256, s257, s258, s259, s260, s261, s262, s263, s264, s265, s266, s267, s268, s269, s270, s271, s272, s273, s274, s275, s276, s277, s278, s279, s280, s281, s282, s283, s284, s285, s286, s287, s288, s289, s290, s291, s292, s293, s294, s295, s296, s297, s298, s299, s300, s301, s302, s303, s304, s305, s306, s307, s308, s309, s310, s311, s312, s313, s314, s315, s316, s317, s318, s319, s320, s321, s322, s323, s324], []⟩ w1 := by
  conv => arg 2; whnf
  conv => arg 4; zeta
  cases one
  · clear FB
    repeat (first | (go_at_K; go_step; exact bk19 hlW hlL hlS hcs rdW rdL rdS FC G) | go_step)
  obtain ⟨hP, rfl⟩ := FB.out rfl
  have HP := Lib.hid hP
  have He := Lib.hid (fun x (hx : x ∈ a) => end_ge hx)
  generalize endF a = fin at *
  have hG := G
  obtain ⟨n, hn⟩ : ∃ n, Hid (a.length = n) := ⟨_, rfl⟩
  clear FB hP
  go_wp2_with fail
  go_loopw [40, 41, 42, 223] (fun _ _ _ q wr => ∃ k : Nat, q = .int .i64 k ∧ k ≤ a.length ∧ Gw w1 wr) (fun _ _ _ q _ => a.length - (intOf q).toNat)
  case atStart => exact ⟨0, by go_num, Nat.zero_le _, Gw.refl _⟩
  case round =>
    obtain ⟨k, rfl, hk, hg⟩ := hrel
    by_cases hlt : k < a.length
    · obtain ⟨x, hx⟩ := get_of_lt hlt
      have hbk := HP.out.1 x (mem_of_get hx)
      have hwho := who_last HP.out (mem_of_get hx)
      have hend := He.out x (mem_of_get hx)
      obtain ⟨b, off, he, hb, c0, c1, c2, c3⟩ := (rda.gw hg).get4 hx
      subst he
      obtain ⟨x1, x2, x3, x4⟩ := x
      dsimp only at c0 c1 c2 c3 hbk hwho hend
      have hbk : (1 ≤ x1 ∧ x1 ≤ 9) ∧ (1 ≤ x2 ∧ x2 ≤ 9) ∧ 0 ≤ x3 ∧ x3 < x4 ∧ x4 ≤ 168 := hbk
      have T1 := fun u A c (h : Rd u A a) hc => i_WhoRehearses A c a x2 (x4 - 1) u hla h hc
      rw [hwho] at T1
      have H1 := Lib.hid T1
      clear hx hwho T1
      have wr1 : IntKind.i64.wrap (x4 - 1) = x4 - 1 := IntWalk.i64_in _ (by omega)
      have q1 : decide (fin < x4) = false := by simp; omega
      have q2 : (x1 != x1) = false := by simp
      go_wp2_with fail
      have B1 := heap_alloc_new wr (.cells #[.int .i64 x1, .int .i64 x2, .int .i64 x3, .int .i64 x4] 43)
      have GB : Gw wr (wr.alloc (.cells #[.int .i64 x1, .int .i64 x2, .int .i64 x3, .int .i64 x4] 43)) := (Gw.refl wr).alloc _
      have hsB : wr.heap.size < (wr.alloc (.cells #[.int .i64 x1, .int .i64 x2, .int .i64 x3, .int .i64 x4] 43)).heap.size := by simp
      have e0 := cell_of_row _ _ 0 _ _ _ B1
      have e1 := cell_of_row _ _ 1 _ _ _ B1
      have e3 := cell_of_row _ _ 3 _ _ _ B1
      simp only [List.getElem?_toArray, List.getElem?_cons_zero, List.getElem?_cons_succ] at e0 e1 e3
      generalize wr.alloc (.cells #[.int .i64 x1, .int .i64 x2, .int .i64 x3, .int .i64 x4] 43) = W1 at *
      clear B1
      go_wp2_with fail
      refine (H1.out _ _ _ (rda.gw (hg.trans GB)) hca).mono ?_
      rintro _ w6 ⟨rfl, hb6⟩
      have e0 := (hb6.cells _ 0 hsB).trans e0
      have e3 := (hb6.cells _ 3 hsB).trans e3
      dsimp only
      go_wp2_with fail
      go_roundw
      case rel => exact ⟨k + 1, by go_num, by omega, (hg.trans GB).trans hb6⟩
      case measure => simp [intOf]; omega
    · repeat (first | (go_at_K; go_step; exact bk19 hlW hlL hlS hcs (rdW.gw hg) (rdL.gw hg) (rdS.gw hg) FC (G.trans hg)) | go_step)
end Go.Proofs.YtgbgmmdpldekbaaDoor
