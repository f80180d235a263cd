/-
  FnSpeeds: what is left of its text behind some statements.
-/
import Derived.Test.YthokcddabgojgaaSpL
import Derived.Test.YthokcddabgojgaaTail
namespace Go.Proofs.Ythokcddabgojgaa
open Go.ChangeShapes Go.WideShapes Go.ChangeAt Go.RowKit
set_option linter.unusedVariables false
set_option maxHeartbeats 2000000 in
theorem l_qInts (A B : Option Addr) (c d : Nat) (l : List Int) (w : World) (hl : l.length ≤ 1048576) (hA : Rd w A l) (hB : Rd w B l) :
    Calls Try.prog 16 #[.slice A l.length c, .slice B l.length d] w fun e w' => e = .returned (.bool true) ∧ Gw w w' := by
  go_enter Try.func16, Try.ntmps16
  go_wp2
  go_loopw [5, 13] (fun _ i wr => ∃ k : Nat, i = .int .i64 k ∧ k ≤ l.length ∧ Gw w wr) (fun _ i _ => l.length - (intOf i).toNat)
  case atStart => exact ⟨0, by go_num, Nat.zero_le _, by (repeat (first | with_reducible exact Gw.refl _ | with_reducible assumption | ((with_reducible refine Gw.set ?_ ?_ _); rotate_left; (focus (first | (simp; done) | (simp; omega) | omega))) | with_reducible refine Gw.alloc ?_ _ | with_reducible refine Gw.drew ?_ | with_reducible refine Gw.drewN ?_ _ | (refine Gw.trans ?_ (by with_reducible assumption))))⟩
  case round =>
    obtain ⟨k, rfl, hk, hgw⟩ := hrel
    by_cases hlt : k < l.length
    · obtain ⟨x, hx⟩ := get_of_lt hlt
      obtain ⟨b, off, rfl, hb, c0⟩ := (hA.gw hgw).get1 hx
      obtain ⟨b', off', rfl, hb', d0⟩ := (hB.gw hgw).get1 hx
      have Hx : Hid (l[k]? = some x) := hx; clear hx
      have hkz : (0 : Int) ≤ (k : Int) := by omega
      have hkl : (k : Int) < (l.length : Int) := by omega
      go_wp2_with (first | go_region)
      all_goals
        go_roundw
        case rel => exact ⟨k + 1, by go_num, by omega, by (repeat (first | with_reducible exact Gw.refl _ | with_reducible assumption | ((with_reducible refine Gw.set ?_ ?_ _); rotate_left; (focus (first | (simp; done) | (simp; omega) | omega))) | with_reducible refine Gw.alloc ?_ _ | with_reducible refine Gw.drew ?_ | with_reducible refine Gw.drewN ?_ _ | (refine Gw.trans ?_ (by with_reducible assumption))))⟩
        case measure => simp [intOf]; omega
    · go_wp2
      go_ret
      exact ⟨rfl, by (repeat (first | with_reducible exact Gw.refl _ | with_reducible assumption | ((with_reducible refine Gw.set ?_ ?_ _); rotate_left; (focus (first | (simp; done) | (simp; omega) | omega))) | with_reducible refine Gw.alloc ?_ _ | with_reducible refine Gw.drew ?_ | with_reducible refine Gw.drewN ?_ _ | (refine Gw.trans ?_ (by with_reducible assumption))))⟩
set_option maxHeartbeats 2000000 in
theorem l_qHas (A : Option Addr) (c : Nat) (l : List Int) (n : Int) (w : World) (hl : l.length ≤ 1048576) (hA : Rd w A l) :
    Calls Try.prog 20 #[.slice A l.length c, .int .i64 n] w (Tells (n ∈ l) w) := by
  go_enter Try.func20, Try.ntmps20
  go_wp2
  go_loopw [6, 9] (fun _ i wr => ∃ k : Nat, i = .int .i64 k ∧ k ≤ l.length ∧ Hid (AllTo (fun x : Int => ¬x = n) l k) ∧ Gw w wr) (fun _ i _ => l.length - (intOf i).toNat)
  case atStart => exact ⟨0, by go_num, Nat.zero_le _, AllTo.zero, by (repeat (first | with_reducible exact Gw.refl _ | with_reducible assumption | ((with_reducible refine Gw.set ?_ ?_ _); rotate_left; (focus (first | (simp; done) | (simp; omega) | omega))) | with_reducible refine Gw.alloc ?_ _ | with_reducible refine Gw.drew ?_ | with_reducible refine Gw.drewN ?_ _ | (refine Gw.trans ?_ (by with_reducible assumption))))⟩
  case round =>
    obtain ⟨k, rfl, hk, hall, hgw⟩ := hrel
    by_cases hlt : k < l.length
    · obtain ⟨x, hx⟩ := get_of_lt hlt
      obtain ⟨b, off, rfl, hb, c0⟩ := (hA.gw hgw).get1 hx
      have Hx : Hid (l[k]? = some x) := hx; clear hx
      by_cases e : x = n
      · have e1 : (x == n) = true := by simp [e]
        have hm : Hid (n ∈ l) := by unfold Hid; rw [← e]; exact mem_of_get Hx.out
        clear e
        go_wp2_with fail
        go_ret
        exact .inl ⟨hm.out, rfl, hgw⟩
      · have e1 : (x == n) = false := by simp [e]
        have hn := Lib.hid (AllTo.succ hall.out Hx.out e)
        clear e
        go_wp2_with fail
        go_roundw
        case rel => exact ⟨k + 1, by go_num, by omega, hn, hgw⟩
        case measure => simp [intOf]; omega
    · have hno : Hid (¬n ∈ l) := fun hm => AllTo.all hall.out (by omega) n hm rfl
      go_wp2_with fail
      go_ret
      exact .inr ⟨hno.out, rfl, hgw⟩

set_option maxHeartbeats 16000000 in
set_option maxRecDepth 100000 in
theorem fp18 {w w1 : World} {P5 P6 P7 : Nat} {a b c d s t lim cn : Int} {ok : Bool} {s0 s1 s2 s3 s4 s9 s12 s13 s14 s15 s16 s17 s18 s19 s20 s21 s22 s23 s24 s25 s26 s27 s28 s29 s30 s31 s32 s33 s34 s35 s36 s37 s38 s39 s40 s41 s42 s43 s44 s45 s46 s47 s48 s49 s50 s51 s52 s53 s54 s55 s56 s57 s58 s59 s60 s61 s62 s63 s64 s65 s66 s67 s68 s69 s70 s71 s72 s73 s74 s75 s76 s77 s78 s79 s80 s81 s82 s83 s84 s85 s86 s87 s88 s89 s90 s91 s92 s93 s94 s95 s96 s97 s98 s99 s100 s101 s102 s103 s104 s105 s106 s107 s108 s109 s110 s111 s112 s113 s114 s115 s116 s117 s118 s119 s120 s121 s122 s123 s124 s125 s126 s127 s128 s129 s130 s131 s132 s133 s134 s135 s136 s137 s138 s139 s140 s141 s142 s143 s144 s145 s146 s147 s148 s149 s150 s151 s152 s153 s154 s155 s156 s157 s158 s159 s160 s161 s162 s163 s164 s165 s166 s167 s168 s169 s170 s171 s172 s173 s174 s175 s176 s177 s178 s179 s180 s181 s182 s183 s184 s185 s186 s187 s188 s189 s190 s191 s192 s193 s194 s195 s196 s197 s198 s199 s200 s201 s202 s203 s204 s205 s206 s207 s208 s209 s210 s211 s212 s213 s214 s215 s216 s217 s218 s219 s220 s221 s222 s223 s224 s225 s226 s227 s228 s229 s230 s231 s232 s233 s234 s235 s236 s237 s238 s239 s240 s241 s242 s243 s244 s245 s246 s247 s248 s249 s250 s251 s252 s253 s254 s255 s256 s257 s258 s259 s260 s261 s262 s263 s264 s265 s266 s267 s268 s269 s270 s271 s272 s273 s274 s275 s276 s277 s278 s279 s280 s281 s282 s283 s284 s285 s286 s287 s288 s289 s290 s291 s292 s293 s294 s295 s296 s297 s298 s299 s300 s301 s302 s303 s304 s305 s306 s307 s308 s309 s310 s311 s312 s313 s314 s315 s316 s317 s318 s319 s320 s321 s322 s323 s324 s325 s326 s327 s328 s329 s330 s331 s332 s333 s334 s335 s336 s337 s338 s339 s340 s341 s342 s343 s344 s345 s346 s347 s348 s349 s350 s351 s352 s353 s354 s355 s356 s357 s358 s359 s360 s361 s362 s363 s364 s365 s366 s367 s368 s369 s370 s371 s372 s373 s374 s375 s376 s377 s378 s379 s380 s381 s382 s383 s384 s385 s386 s387 s388 s389 s390 s391 s392 s393 s394 s395 s396 s397 s398 s399 s400 s401 s402 s403 s404 s405 s406 s407 s408 s409 s410 s411 s412 s413 s414 s415 s416 s417 s418 s419 s420 s421 s422 : Value} (B5 : BoxR w1 P5 #[.int .i64 a, .int .i64 b] 24) (B6 : BoxR w1 P6 #[.int .i64 c, .int .i64 d] 24) (B7 : BoxR w1 P7 #[.int .i64 s, .int .i64 t] 26) (HC : Hid (countsAt a b c d s t lim = (cn, ok))) (G : Gw w w1) :
    Code.wp Try.prog (Code.tailOf 18 (Try.f3.body.getD .skip)) (bodyPost Try.prog Try.f3 fun e w' => e = .returned (.bool true) ∧ Gw w w') ⟨#[s0, s1, s2, s3, s4, .pointer (some ⟨P5, 0, none⟩), .pointer (some ⟨P6, 0, none⟩), .pointer (some ⟨P7, 0, none⟩), .int .i64 lim, s9, .bool ok, .int .i64 cn, s12, s13, s14, s15, s16, s17, s18, s19, s20, s21, s22, s23, s24, s25, s26, s27, s28, s29, s30, s31, s32, s33, s34, s35, s36, s37, s38, s39, s40, s41, s42, s43, s44, s45, s46, s47, s48, s49, s50, s51, s52, s53, s54, s55, s56, s57, s58, s59, s60, s61, s62, s63, s64, s65, s66, s67, s68, s69, s70, s71, s72, s73, s74, s75, s76, s77, s78, s79, s80, s81, s82, s83, s84, s85, s86, s87, s88, s89, s90, s91, s92, s93, s94, s95, s96, s97, s98, s99, s100, s101, s102, s103, s104, s105, s106, s107, s108, s109, s110, s111, s112, s113, s114, s115, s116, s117, s118, s119, s120, s121, s122, s123, s124, s125, s126, s127, s128, s129, s130, s131, s132, s133, s134, s135, s136, s137, s138, s139, s140, s141, s142, s143, s144, s145, s146, s147, s148, s149, s150, s151, s152, s153, s154, s155, s156, s157, s158, s159, s160, s161, s162, s163, s164, s165, s166, s167, s168, s169, s170, s171, s172, s173, s174, s175, s176, s177, s178, s179, s180, s181, s182, s183, s184, s185, s186, s187, s188, s189, s190, s191, s192, s193, s194, s195, s196, s197, s198, s199, s200, s201, s202, s203, s204, s205, s206, s207, s208, s209, s210, s211, s212, s213, s214, s215, s216, s217, s218, s219, s220, s221, s222, s223, s224, s225, s226, s227, s228, s229, s230, s231, s232, s233, s234, s235, s236, s237, s238, s239, s240, s241, s242, s243, s244, s245, s246, s247, s248, s249, s250, s251, s252, s253, s254, s255, s256, s257, s258, s259, s260, s261, s262, s263, s264, s265, s266, s267, s268, s269, s270, s271, s272, s273, s274, s275, s276, s277, s278, s279, s280, s281, s282, s283, s284, s285, s286, s287, s288, s289, s290, s291, s292, s293, s294, s295, s296, s297, s298, s299, s300, s301, s302, s303, s304, s305, s306, s307, s308, s309, s310, s311, s312, s313, s314, s315, s316, s317, s318, s319, s320, s321, s322, s323, s324, s325, s326, s327, s328, s329, s330, s331, s332, s333, s334, s335, s336, s337, s338, s339, s340, s341, s342, s343, s344, s345, s346, s347, s348, s349, s350, s351, s352, s353, s354, s355, s356, s357, s358, s359, s360, s361, s362, s363, s364, s365, s366, s367, s368, s369, s370, s371, s372, s373, s374, s375, s376, s377, s378, s379, s380, s381, s382, s383, s384, s385, s386, s387, s388, s389, s390, s391, s392, s393, s394, s395, s396, s397, s398, s399, s400, s401, s402, s403, s404, s405, s406, s407, s408, s409, s410, s411, s412, s413, s414, s415, s416, s417, s418, s419, s420, s421, s422], []⟩ w1 := by
  conv => arg 2; whnf
  conv => arg 4; zeta
  cases ok with
  | false =>
    go_wp2_with fail
    go_ret
    exact ⟨rfl, G⟩
  | true =>
    obtain ⟨hsp, hpa, hlim, hc1, hc2, hok1, hok2⟩ := counts_facts HC.out
    have hstep : 1 ≤ s ∧ s ≤ 24 := hpa.1
    have htempo : 40 ≤ t ∧ t ≤ 220 := hpa.2
    have Hsp := Lib.hid hsp
    have Hok1 := Lib.hid hok1
    have Hok2 := Lib.hid hok2
    have hmmb : 0 ≤ lim * lim ∧ lim * lim ≤ 1000000000 := by
      have := mul_in (x := lim) (y := lim) (m := 5280) (n := 5280) (by omega) (by omega)
      omega
    obtain ⟨mm, hmm⟩ : ∃ x, lim * lim = x := ⟨_, rfl⟩
    have Hmm := Lib.hid hmm
    rw [hmm] at hmmb
    have wmm : IntKind.i64.wrap (lim * lim) = mm := by rw [hmm]; exact IntWalk.i64_in _ (by omega)
    clear hmm hsp hpa hok1 hok2 HC
    have bl := Lib.hid (BoxR.new w1 #[.int .i64 0, .int .i64 1] 3)
    have hal0 := Lib.hid ((Gw.refl w1).alloc (.cells #[.int .i64 0, .int .i64 1] 3))
    have h5l := B5.lt
    have h6l := B6.lt
    have h7l := B7.lt
    go_wp2_with fail
    go_loopw [54, 55, 56, 57, 58, 59, 60, 61, 62, 63, 64, 65, 334] (fun _ _ _ _ _ _ _ _ _ _ _ _ q wr => ∃ i : Nat, q = .int .i64 i ∧ i ≤ 2 ∧ Gw (w1.alloc (.cells #[.int .i64 0, .int .i64 1] 3)) wr) (fun _ _ _ _ _ _ _ _ _ _ _ _ q _ => 2 - (intOf q).toNat)
    case atStart => exact ⟨0, by go_num, by omega, Gw.refl _⟩
    case round =>
      obtain ⟨wo, rfl⟩ : ∃ wo : World, wo = wr := ⟨_, rfl⟩
      obtain ⟨i, rfl, hi, hg⟩ := hrel
      have y0 := (bl.out.gw hg).cell 0 rfl
      have y1 := (bl.out.gw hg).cell 1 rfl
      have hgo := Lib.hid (hal0.out.trans hg)
      have Hg := Lib.hid hg
      clear hg
      by_cases hi2 : i < 2
      · have hcase : ∃ n' : Int, n' = cn - (i : Int) ∧ (1 ≤ n' → countOk a b c d s t lim n' = decide (i = 0)) := by
          refine ⟨cn - (i : Int), rfl, fun h => ?_⟩
          rcases Nat.eq_zero_or_pos i with rfl | h0
          · rw [show cn - ((0 : Nat) : Int) = cn by omega]
            exact Hok1.out
          · obtain rfl : i = 1 := by omega
            exact Hok2.out (by omega)
        obtain ⟨n', hn', hcn⟩ := hcase
        have Hcn := Lib.hid hcn
        have wn : IntKind.i64.wrap (cn - (i : Int)) = n' := by rw [← hn']; exact IntWalk.i64_in _ (by omega)
        have hnb : n' ≤ 64 := by omega
        have yi : wo.cell? ⟨w1.heap.size, i, none⟩ = some (.int .i64 (i : Int)) := by
          rcases Nat.eq_zero_or_pos i with rfl | h0
          · exact y0
          · obtain rfl : i = 1 := by omega
            exact y1
        have hi0 : (0 : Int) ≤ (i : Int) := by omega
        have hi1 : (i : Int) < 2 := by omega
        clear hcn hn' y0 y1
        by_cases hn1 : n' < 1
        · go_wp2_with fail
          go_roundw
          case rel => exact ⟨i + 1, by go_num, by omega, Hg.out⟩
          case measure => simp [intOf]; omega
        · have hmx : MoveP a b c d n' := ⟨Hsp.out.1, Hsp.out.2, by omega, by omega⟩
          obtain ⟨j, k', hjk, hj, hk', -, hfp⟩ := speed_facts hmx htempo
          have hfp2 : Hid (mm * k' < j ↔ FastP a b c d n' t lim) := by unfold Hid; rw [← Hmm.out]; exact hfp lim
          have TA := fun u => i_WithinStep a b c d n' s u hmx hstep
          have TB := fun u => s_WithinStep a b c d n' s u hmx hstep
          have TI := fun u => i_MoveSpeed a b c d n' t u
          have TS := fun u => s_MoveSpeed a b c d n' t u
          rw [hjk] at TI TS
          have hok := Hcn.out (by omega)
          rw [ok_iff] at hok
          obtain ⟨wb, hwb⟩ : ∃ wb, decide (WithinP a b c d n' s) = wb := ⟨_, rfl⟩
          rw [hwb] at TA TB hok
          have Hok := Lib.hid hok
          have TA := Lib.hid TA
          have TB := Lib.hid TB
          have TI := Lib.hid TI
          have TS := Lib.hid TS
          have ej : (j != j) = false := by simp
          have ek : (k' != k') = false := by simp
          have ew : (wb != wb) = false := by simp
          have bx := Lib.hid (BoxR.new wo #[.int .i64 a, .int .i64 b, .int .i64 c, .int .i64 d, .int .i64 n'] 39)
          have hal := Lib.hid ((Gw.refl wo).alloc (.cells #[.int .i64 a, .int .i64 b, .int .i64 c, .int .i64 d, .int .i64 n'] 39))
          have hgx := Lib.hid (hgo.out.trans hal.out)
          have p0 := (B5.gw hgo.out).cell 0 rfl
          have q0 := (B6.gw hgo.out).cell 0 rfl
          have r0 := (B7.gw hgo.out).cell 0 rfl
          have p1 := (B5.gw hgo.out).cell 1 rfl
          have q1 := (B6.gw hgo.out).cell 1 rfl
          have r1 := (B7.gw hgo.out).cell 1 rfl

          have r0' := (B7.gw hgx.out).cell 0 rfl
          clear hmx hjk hfp hok hwb
          go_wp2_with fail
          refine (TA.out _).mono ?_
          rintro _ w2 ⟨rfl, hb2⟩
          clear r0' p0 p1 q0 q1 r0 r1 TA
          have g2 := hgx.out.trans hb2
          have bx := Lib.hid (bx.out.gw hb2)
          have z0 := (bx.out).cell 0 rfl
          have z1 := (bx.out).cell 1 rfl
          have z2 := (bx.out).cell 2 rfl
          have z3 := (bx.out).cell 3 rfl
          have z4 := (bx.out).cell 4 rfl

          have r0 := (B7.gw g2).cell 0 rfl
          dsimp only
          go_wp2_with fail
          refine (TB.out _).mono ?_
          rintro _ w3 ⟨rfl, hb3⟩
          clear z0 z1 z2 z3 z4 r0 TB
          have g3 := g2.trans hb3
          have bx := Lib.hid (bx.out.gw hb3)
          have z0 := (bx.out).cell 0 rfl
          have z1 := (bx.out).cell 1 rfl
          have z2 := (bx.out).cell 2 rfl
          have z3 := (bx.out).cell 3 rfl
          have z4 := (bx.out).cell 4 rfl

          have r1 := (B7.gw g3).cell 1 rfl
          dsimp only
          go_wp2_with fail
          refine (TI.out _).mono ?_
          rintro _ w4 ⟨rfl, hb4⟩
          clear z0 z1 z2 z3 z4 r1 TI
          have g4 := g3.trans hb4
          have bx := Lib.hid (bx.out.gw hb4)
          have z0 := (bx.out).cell 0 rfl
          have z1 := (bx.out).cell 1 rfl
          have z2 := (bx.out).cell 2 rfl
          have z3 := (bx.out).cell 3 rfl
          have z4 := (bx.out).cell 4 rfl

          have r1 := (B7.gw g4).cell 1 rfl
          dsimp only
          go_wp2_with fail
          refine (TS.out _).mono ?_
          rintro _ w5 ⟨rfl, hb5⟩
          clear z0 z1 z2 z3 z4 r1 TS
          have g5 : Gw wo w5 := (((hal.out.trans hb2).trans hb3).trans hb4).trans hb5
          have hgN := Lib.hid (Hg.out.trans g5)
          dsimp only
          cases wb with
          | false =>
            have hi9 : ¬i = 0 := by
              have := Hok.out
              intro h
              rw [decide_eq_true h] at this
              simp at this
            have ei : ((i : Int) == 0) = false := by simp; omega
            have ed : decide ((i : Int) = 0) = false := decide_eq_false (by omega)
            go_wp2_with fail
            go_roundw
            case rel => exact ⟨i + 1, by go_num, by omega, hgN.out⟩
            case measure => simp [intOf]; omega
          | true =>
            go_wp2_with fail
            refine (l_qLess _ _ _ _ hmmb hj ⟨hk'.1, by omega⟩).mono ?_
            rintro _ w6 (⟨hp, rfl, hb6⟩ | ⟨hp, rfl, hb6⟩)
            · have hi9 : ¬i = 0 := by
                have := Hok.out
                intro h
                rw [decide_eq_true h, decide_eq_true (hfp2.out.1 hp)] at this
                simp at this
              have ei : ((i : Int) == 0) = false := by simp; omega
              have ed : decide ((i : Int) = 0) = false := decide_eq_false (by omega)
              clear hp
              go_wp2_with fail
              go_roundw
              case rel => exact ⟨i + 1, by go_num, by omega, hgN.out.trans hb6⟩
              case measure => simp [intOf]; omega
            · have hi9 : i = 0 := by
                have := Hok.out
                rw [decide_eq_false (fun h => hp (hfp2.out.2 h))] at this
                have h2 : true = decide (i = 0) := by simpa using this
                exact of_decide_eq_true h2.symm
              subst hi9
              clear hp
              go_wp2_with fail
              go_roundw
              case rel => exact ⟨1, by go_num, by omega, hgN.out.trans hb6⟩
              case measure => simp [intOf]
      · obtain rfl : i = 2 := by omega
        go_wp2_with fail
        go_ret
        exact ⟨rfl, G.trans hgo.out⟩
end Go.Proofs.Ythokcddabgojgaa
