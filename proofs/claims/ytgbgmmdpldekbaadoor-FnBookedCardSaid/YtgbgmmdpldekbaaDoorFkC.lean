/-
  FnBooked: what is left of its text behind some statements.
-/
import Derived.Test.YtgbgmmdpldekbaaDoorFkL
namespace Go.Proofs.YtgbgmmdpldekbaaDoor
open Go.ChangeShapes Go.WideShapes Go.ChangeAt Go.RowKit
set_option linter.unusedVariables false
set_option maxHeartbeats 8000000 in
set_option maxRecDepth 100000 in
theorem bk19 {w w1 : World} {AW AL AS : Option Addr} {cw cl cs : Nat} {W : List W3} {L : List R2} {S : List B4} {ok is : Bool} {s0 s1 s2 s3 s4 s8 s11 s12 s13 s14 s15 s16 s17 s18 s19 s20 s21 s22 s23 s24 s25 s26 s27 s28 s29 s30 s31 s32 s33 s34 s35 s36 s37 s38 s39 s40 s41 s42 s43 s44 s45 s46 s47 s48 s49 s50 s51 s52 s53 s54 s55 s56 s57 s58 s59 s60 s61 s62 s63 s64 s65 s66 s67 s68 s69 s70 s71 s72 s73 s74 s75 s76 s77 s78 s79 s80 s81 s82 s83 s84 s85 s86 s87 s88 s89 s90 s91 s92 s93 s94 s95 s96 s97 s98 s99 s100 s101 s102 s103 s104 s105 s106 s107 s108 s109 s110 s111 s112 s113 s114 s115 s116 s117 s118 s119 s120 s121 s122 s123 s124 s125 s126 s127 s128 s129 s130 s131 s132 s133 s134 s135 s136 s137 s138 s139 s140 s141 s142 s143 s144 s145 s146 s147 s148 s149 s150 s151 s152 s153 s154 s155 s156 s157 s158 s159 s160 s161 s162 s163 s164 s165 s166 s167 s168 s169 s170 s171 s172 s173 s174 s175 s176 s177 s178 s179 s180 s181 s182 s183 s184 s185 s186 s187 s188 s189 s190 s191 s192 s193 s194 s195 s196 s197 s198 s199 s200 s201 s202 s203 s204 s205 s206 s207 s208 s209 s210 s211 s212 s213 s214 s215 s216 s217 s218 s219 s220 s221 s222 s223 s224 s225 s226 s227 s228 s229 s230 s231 s232 s233 s234 s235 s236 s237 s238 s239 s240 s241 s242 s243 s244 s245 s246 s247 s248 s249 s250 s251 s252 s253 s254 s255 s256 s257 s258 s259 s260 s261 s262 s263 s264 s265 s266 s267 s268 s269 s270 s271 s272 s273 s274 s275 s276 s277 s278 s279 s280 s281 s282 s283 s284 s285 s286 s287 s288 s289 s290 s291 s292 s293 s294 s295 s296 s297 s298 s299 s300 s301 s302 s303 s304 s305 s306 s307 s308 s309 s310 s311 s312 s313 s314 s315 s316 s317 s318 s319 s320 s321 s322 s323 s324 : Value} (hlW : W.length ≤ 1048576) (hlL : L.length ≤ 1048576) (hlS : S.length ≤ 1048576) (hcs : S.length ≤ cs) (rdW : Rd w1 AW W) (rdL : Rd w1 AL L) (rdS : Rd w1 AS S) (FC : Hid (ok = true → is = true → WinsP W ∧ RehP L ∧ BookP S ∧ SchedP W L S)) (G : Gw w w1) :
    Code.wp Tryd.prog (Code.tailOf 19 (Tryd.f3.body.getD .skip)) (bodyPost Tryd.prog Tryd.f3 fun e w' => e = .returned (.bool true) ∧ Gw w w') ⟨#[s0, s1, s2, s3, s4, .slice AW W.length cw, .slice AL L.length cl, .slice AS S.length cs, s8, .bool ok, .bool is, s11, s12, s13, s14, s15, s16, s17, s18, s19, s20, s21, s22, s23, s24, s25, s26, s27, s28, s29, s30, s31, s32, s33, s34, s35, s36, s37, s38, s39, s40, s41, s42, s43, s44, s45, s46, s47, s48, s49, s50, s51, s52, s53, s54, s55, s56, s57, s58, s59, s60, s61, s62, s63, s64, s65, s66, s67, s68, s69, s70, s71, s72, s73, s74, s75, s76, s77, s78, s79, s80, s81, s82, s83, s84, s85, s86, s87, s88, s89, s90, s91, s92, s93, s94, s95, s96, s97, s98, s99, s100, s101, s102, s103, s104, s105, s106, s107, s108, s109, s110, s111, s112, s113, s114, s115, s116, s117, s118, s119, s120, s121, s122, s123, s124, s125, s126, s127, s128, s129, s130, s131, s132, s133, s134, s135, s136, s137, s138, s139, s140, s141, s142, s143, s144, s145, s146, s147, s148, s149, s150, s151, s152, s153, s154, s155, s156, s157, s158, s159, s160, s161, s162, s163, s164, s165, s166, s167, s168, s169, s170, s171, s172, s173, s174, s175, s176, s177, s178, s179, s180, s181, s182, s183, s184, s185, s186, s187, s188, s189, s190, s191, s192, s193, s194, s195, s196, s197, s198, s199, s200, s201, s202, s203, s204, s205, s206, s207, s208, s209, s210, s211, s212, s213, s214, s215, s216, s217, s218, s219, s220, s221, s222, s223, s224, s225, s226, s227, s228, s229, s230, s231, s232, s233, s234, s235, s236, s237, s238, s239, s240, s241, s242, s243, s244, s245, s246, s247, s248, s249, s250, s251, s252, s253, s254, s255, s256, s257, s258, s259, s260, s261, s262, s263, s264, s265, s266, s267, s268, s269, s270, s271, s272, s273, s274, s275, s276, s277, s278, s279, s280, s281, s282, s283, s284, s285, s286, s287, s288, s289, s290, s291, s292, s293, s294, s295, s296, s297, s298, s299, s300, s301, s302, s303, s304, s305, s306, s307, s308, s309, s310, s311, s312, s313, s314, s315, s316, s317, s318, s319, s320, s321, s322, s323, s324], []⟩ w1 := by
  conv => arg 2; whnf
  conv => arg 4; zeta
  cases ok
  · clear FC
    go_wp2_with fail
    go_ret
    exact ⟨rfl, G⟩
  cases is
  · clear FC
    go_wp2_with fail
    go_ret
    exact ⟨rfl, G⟩
  obtain ⟨hW, hL, hS, hF⟩ := FC.out rfl rfl
  have HW := Lib.hid hW
  have HS := Lib.hid hS
  have HF := Lib.hid hF
  have hlen : L.length = S.length := hF.1.symm
  have Hlen := Lib.hid hlen
  obtain ⟨n, hn⟩ : ∃ n, Hid (S.length = n) := ⟨_, rfl⟩
  have hnL : Hid (L.length = n) := by unfold Hid; rw [hlen, hn.out]
  rw [hn.out] at hlS hcs
  rw [hn.out, hnL.out]
  clear hW hL hS hF hlen FC hlL
  go_wp2_with fail
  go_loopw [43, 44, 45, 46, 47, 48, 260] (fun _ _ _ _ _ _ q wr => ∃ k : Nat, q = .int .i64 k ∧ k ≤ n ∧ Gw w1 wr) (fun _ _ _ _ _ _ q _ => n - (intOf q).toNat)
  case atStart => exact ⟨0, by go_num, Nat.zero_le _, Gw.refl _⟩
  case round =>
    obtain ⟨k, rfl, hk, hg⟩ := hrel
    by_cases hlt : k < n
    · obtain ⟨x, hx⟩ := get_of_lt (show k < S.length by rw [hn.out]; exact hlt)
      obtain ⟨r, hr⟩ := get_of_lt (show k < L.length by rw [hnL.out]; exact hlt)
      have hfit := HF.out.2 k x r hx hr
      have hbk := HS.out.1 x (mem_of_get hx)
      obtain ⟨b, off, he, hb, c0, c1, c2, c3⟩ := (rdS.gw hg).get4 hx
      subst he
      obtain ⟨b', off', he, hb', d0, d1⟩ := (rdL.gw hg).get2 hr
      subst he
      obtain ⟨x1, x2, x3, x4⟩ := x
      obtain ⟨r1, r2⟩ := r
      dsimp only at c0 c1 c2 c3 d0 d1 hfit hbk
      obtain ⟨hf1, hf2, hf3⟩ := hfit
      have hf1 : x1 = r1 := hf1
      have hf2 : x4 - x3 = r2 := hf2
      have hf3 : forP W x2 x3 x4 := hf3
      have hbk : (1 ≤ x1 ∧ x1 ≤ 9) ∧ (1 ≤ x2 ∧ x2 ≤ 9) ∧ 0 ≤ x3 ∧ x3 < x4 ∧ x4 ≤ 168 := hbk
      subst hf1
      subst hf2
      obtain ⟨o, h1, h2⟩ := open_ok HW.out (h := x3) ⟨by omega, by omega⟩
      have hol : o.length ≤ 1048576 := by
        have := openF_len W x3
        rw [h1] at this
        exact this
      have hmem : x2 ∈ o := (h2 x2).2 (by
        obtain ⟨y, hy, e1, e2, e3⟩ := hf3
        exact ⟨y, hy, e1, e2, by omega⟩)
      have Hmem := Lib.hid hmem
      have T1 := fun u A c (h : Rd u A W) => i_OpenPlaces A c W x3 u hlW h
      have T2 := fun u A c (h : Rd u A W) => s_OpenPlaces A c W x3 u hlW h
      rw [h1] at T1 T2
      have H1 := Lib.hid T1
      have H2 := Lib.hid T2
      clear hx hr hf3 h1 h2 hmem T1 T2
      have wr1 : IntKind.i64.wrap (x4 - x3) = x4 - x3 := IntWalk.i64_in _ (by omega)
      have q1 : (x1 == x1) = true := by simp
      have q1' : (x1 != x1) = false := by simp
      have q2' : (x4 - x3 != x4 - x3) = false := by simp
      go_wp2_with fail
      have B1 := heap_alloc_new wr (.cells #[.int .i64 x1, .int .i64 x2, .int .i64 x3, .int .i64 x4] 43)
      have GB : Gw wr (wr.alloc (.cells #[.int .i64 x1, .int .i64 x2, .int .i64 x3, .int .i64 x4] 43)) := (Gw.refl wr).alloc _
      have hsB : wr.heap.size < (wr.alloc (.cells #[.int .i64 x1, .int .i64 x2, .int .i64 x3, .int .i64 x4] 43)).heap.size := by simp
      have e0 := cell_of_row _ _ 0 _ _ _ B1
      have e1 := cell_of_row _ _ 1 _ _ _ B1
      have e2 := cell_of_row _ _ 2 _ _ _ B1
      have e3 := cell_of_row _ _ 3 _ _ _ B1
      simp only [List.getElem?_toArray, List.getElem?_cons_zero, List.getElem?_cons_succ] at e0 e1 e2 e3
      rw [← GB.cells _ _ hb'] at d0 d1
      generalize wr.alloc (.cells #[.int .i64 x1, .int .i64 x2, .int .i64 x3, .int .i64 x4] 43) = W1 at *
      have hb9 : b' < W1.heap.size := Nat.lt_trans hb' hsB
      clear B1
      ((with_reducible refine wp_region_gw (by kernel_rfl) (by kernel_rfl) ?_); have hcq := @GwOf.cell; (repeat (go_big_quiet_step (fail))); refine wpQuiet_nil ?_; clear hcq; rintro w' ⟨⟨w', hb⟩, rfl⟩; (try dsimp only); have hc := hb.cells; have hf := hb.frozens; have hz := hb.size; (try simp at hz); (try have hz0 : w.heap.size < w'.heap.size := (by omega)); (try have hz1 : w.heap.size + 1 < w'.heap.size := (by omega)); (try have hz2 : w.heap.size + 2 < w'.heap.size := (by omega)); (try have hz3 : w.heap.size + 3 < w'.heap.size := (by omega)); (try have hz4 : w.heap.size + 4 < w'.heap.size := (by omega)); (try have hz5 : w.heap.size + 5 < w'.heap.size := (by omega)))
      have hgB := GB.trans hb
      clear hc hf hz
      have c2 := (hb.cells _ 2 hsB).trans e2
      have c1 := (hb.cells _ 1 hsB).trans e1
      have hsw : wr.heap.size < w'.heap.size := Nat.lt_of_lt_of_le hsB hb.size
      go_wp2_with fail
      refine (H1.out _ _ _ (rdW.gw (hg.trans hgB))).mono ?_
      rintro _ w6 ⟨A6, c6, rfl, own6, hb6⟩
      have c2 := (hb6.cells _ 2 hsw).trans c2
      have c1 := (hb6.cells _ 1 hsw).trans c1
      have hsw := Nat.lt_of_lt_of_le hsw hb6.size
      have hg6 := (hg.trans hgB).trans hb6
      dsimp only
      go_wp2_with fail
      refine (H2.out _ _ _ (rdW.gw hg6)).mono ?_
      rintro _ w7 ⟨A7, c7, rfl, own7, hb7⟩
      have c1 := (hb7.cells _ 1 hsw).trans c1
      have hsw := Nat.lt_of_lt_of_le hsw hb7.size
      have hg7 := hg6.trans hb7
      have rd6 := (own_rd own6).gw hb7
      have rd7 := own_rd own7
      clear own6 own7
      dsimp only
      go_wp2_with fail
      refine (l_qInts _ _ _ _ _ _ hol rd6 rd7).mono ?_
      rintro _ w8 ⟨rfl, hb8⟩
      have c1 := (hb8.cells _ 1 hsw).trans c1
      have hsw := Nat.lt_of_lt_of_le hsw hb8.size
      dsimp only
      go_wp2_with fail
      refine ((l_qHas _ _ _ _ _ hol (rd7.gw hb8)).mono (tells_T Hmem.out)).mono ?_
      rintro _ w9 ⟨rfl, hb9⟩
      go_wp2_with fail
      go_roundw
      case rel => exact ⟨k + 1, by go_num, by omega, (hg7.trans hb8).trans hb9⟩
      case measure => simp [intOf]; omega
    · go_wp2_with fail
      go_ret
      exact ⟨by simp, G.trans hg⟩
end Go.Proofs.YtgbgmmdpldekbaaDoor
