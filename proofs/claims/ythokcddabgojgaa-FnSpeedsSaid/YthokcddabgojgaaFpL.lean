/-
  FnSpeeds: what is left of its text behind some statements.
-/
import Derived.Test.YthokcddabgojgaaFpK
namespace Go.Proofs.Ythokcddabgojgaa
open Go.ChangeShapes Go.WideShapes Go.ChangeAt Go.RowKit
set_option linter.unusedVariables false
theorem fst_bd {mu : List (Int × Int)} {f : Int} {n : Nat} (hM : MusicP mu) (h0 : 0 ≤ f) (h1 : f + (n : Int) ≤ sumC mu) : ∀ k, 1 ≤ k → k ≤ n → 40 ≤ fstF mu f k ∧ fstF mu f k ≤ 220
  | 0, h, _ => absurd h (by omega)
  | k + 1, _, hk => by
    have hil := idxF_lt mu (f + (k : Int)) (by omega) (by omega)
    obtain ⟨y, hy⟩ := get_of_lt hil
    have hyb := hM.1 y (mem_of_get hy)
    have hyb : 40 ≤ y.2 ∧ y.2 ≤ 220 := hyb.2
    rw [fstF_succ hy]
    rcases Nat.eq_zero_or_pos k with rfl | hk0
    · show 40 ≤ max 0 y.2 ∧ max 0 y.2 ≤ 220
      omega
    · have := fst_bd hM h0 h1 k hk0 (by omega)
      omega
set_option maxHeartbeats 16000000 in
set_option maxRecDepth 100000 in
theorem fp17 {w w1 : World} {P5 P6 P7 : Nat} {a b c d s t lim cn : Int} {ok : Bool} {Al Am Af : Option Addr} {cl cm cf : Nat} {l : List MvT} {mu : List (Int × Int)} {f most : Int} {one : Bool} {fast : List Int} {s0 s1 s2 s3 s4 s9 s12 s17 s20 s21 s22 s23 s24 s25 s26 s27 s28 s29 s30 s31 s32 s33 s34 s35 s36 s37 s38 s39 s40 s41 s42 s43 s44 s45 s46 s47 s48 s49 s50 s51 s52 s53 s54 s55 s56 s57 s58 s59 s60 s61 s62 s63 s64 s65 s66 s67 s68 s69 s70 s71 s72 s73 s74 s75 s76 s77 s78 s79 s80 s81 s82 s83 s84 s85 s86 s87 s88 s89 s90 s91 s92 s93 s94 s95 s96 s97 s98 s99 s100 s101 s102 s103 s104 s105 s106 s107 s108 s109 s110 s111 s112 s113 s114 s115 s116 s117 s118 s119 s120 s121 s122 s123 s124 s125 s126 s127 s128 s129 s130 s131 s132 s133 s134 s135 s136 s137 s138 s139 s140 s141 s142 s143 s144 s145 s146 s147 s148 s149 s150 s151 s152 s153 s154 s155 s156 s157 s158 s159 s160 s161 s162 s163 s164 s165 s166 s167 s168 s169 s170 s171 s172 s173 s174 s175 s176 s177 s178 s179 s180 s181 s182 s183 s184 s185 s186 s187 s188 s189 s190 s191 s192 s193 s194 s195 s196 s197 s198 s199 s200 s201 s202 s203 s204 s205 s206 s207 s208 s209 s210 s211 s212 s213 s214 s215 s216 s217 s218 s219 s220 s221 s222 s223 s224 s225 s226 s227 s228 s229 s230 s231 s232 s233 s234 s235 s236 s237 s238 s239 s240 s241 s242 s243 s244 s245 s246 s247 s248 s249 s250 s251 s252 s253 s254 s255 s256 s257 s258 s259 s260 s261 s262 s263 s264 s265 s266 s267 s268 s269 s270 s271 s272 s273 s274 s275 s276 s277 s278 s279 s280 s281 s282 s283 s284 s285 s286 s287 s288 s289 s290 s291 s292 s293 s294 s295 s296 s297 s298 s299 s300 s301 s302 s303 s304 s305 s306 s307 s308 s309 s310 s311 s312 s313 s314 s315 s316 s317 s318 s319 s320 s321 s322 s323 s324 s325 s326 s327 s328 s329 s330 s331 s332 s333 s334 s335 s336 s337 s338 s339 s340 s341 s342 s343 s344 s345 s346 s347 s348 s349 s350 s351 s352 s353 s354 s355 s356 s357 s358 s359 s360 s361 s362 s363 s364 s365 s366 s367 s368 s369 s370 s371 s372 s373 s374 s375 s376 s377 s378 s379 s380 s381 s382 s383 s384 s385 s386 s387 s388 s389 s390 s391 s392 s393 s394 s395 s396 s397 s398 s399 s400 s401 s402 s403 s404 s405 s406 s407 s408 s409 s410 s411 s412 s413 s414 s415 s416 s417 s418 s419 s420 s421 s422 : Value} (B5 : BoxR w1 P5 #[.int .i64 a, .int .i64 b] 24) (B6 : BoxR w1 P6 #[.int .i64 c, .int .i64 d] 24) (B7 : BoxR w1 P7 #[.int .i64 s, .int .i64 t] 26) (HC : Hid (countsAt a b c d s t lim = (cn, ok))) (rdl : Rd w1 Al l) (hll : l.length ≤ 1048576) (rdm : Rd w1 Am mu) (rdf : Rd w1 Af fast) (hlf : fast.length ≤ 1048576) (HT : Hid (tooF l mu f most = (fast, one))) (G : Gw w w1) :
    Code.wp Try.prog (Code.tailOf 17 (Try.f3.body.getD .skip)) (bodyPost Try.prog Try.f3 fun e w' => e = .returned (.bool true) ∧ Gw w w') ⟨#[s0, s1, s2, s3, s4, .pointer (some ⟨P5, 0, none⟩), .pointer (some ⟨P6, 0, none⟩), .pointer (some ⟨P7, 0, none⟩), .int .i64 lim, s9, .bool ok, .int .i64 cn, s12, .slice Al l.length cl, .slice Am mu.length cm, .int .i64 f, .int .i64 most, s17, .bool one, .slice Af fast.length cf, s20, s21, s22, s23, s24, s25, s26, s27, s28, s29, s30, s31, s32, s33, s34, s35, s36, s37, s38, s39, s40, s41, s42, s43, s44, s45, s46, s47, s48, s49, s50, s51, s52, s53, s54, s55, s56, s57, s58, s59, s60, s61, s62, s63, s64, s65, s66, s67, s68, s69, s70, s71, s72, s73, s74, s75, s76, s77, s78, s79, s80, s81, s82, s83, s84, s85, s86, s87, s88, s89, s90, s91, s92, s93, s94, s95, s96, s97, s98, s99, s100, s101, s102, s103, s104, s105, s106, s107, s108, s109, s110, s111, s112, s113, s114, s115, s116, s117, s118, s119, s120, s121, s122, s123, s124, s125, s126, s127, s128, s129, s130, s131, s132, s133, s134, s135, s136, s137, s138, s139, s140, s141, s142, s143, s144, s145, s146, s147, s148, s149, s150, s151, s152, s153, s154, s155, s156, s157, s158, s159, s160, s161, s162, s163, s164, s165, s166, s167, s168, s169, s170, s171, s172, s173, s174, s175, s176, s177, s178, s179, s180, s181, s182, s183, s184, s185, s186, s187, s188, s189, s190, s191, s192, s193, s194, s195, s196, s197, s198, s199, s200, s201, s202, s203, s204, s205, s206, s207, s208, s209, s210, s211, s212, s213, s214, s215, s216, s217, s218, s219, s220, s221, s222, s223, s224, s225, s226, s227, s228, s229, s230, s231, s232, s233, s234, s235, s236, s237, s238, s239, s240, s241, s242, s243, s244, s245, s246, s247, s248, s249, s250, s251, s252, s253, s254, s255, s256, s257, s258, s259, s260, s261, s262, s263, s264, s265, s266, s267, s268, s269, s270, s271, s272, s273, s274, s275, s276, s277, s278, s279, s280, s281, s282, s283, s284, s285, s286, s287, s288, s289, s290, s291, s292, s293, s294, s295, s296, s297, s298, s299, s300, s301, s302, s303, s304, s305, s306, s307, s308, s309, s310, s311, s312, s313, s314, s315, s316, s317, s318, s319, s320, s321, s322, s323, s324, s325, s326, s327, s328, s329, s330, s331, s332, s333, s334, s335, s336, s337, s338, s339, s340, s341, s342, s343, s344, s345, s346, s347, s348, s349, s350, s351, s352, s353, s354, s355, s356, s357, s358, s359, s360, s361, s362, s363, s364, s365, s366, s367, s368, s369, s370, s371, s372, s373, s374, s375, s376, s377, s378, s379, s380, s381, s382, s383, s384, s385, s386, s387, s388, s389, s390, s391, s392, s393, s394, s395, s396, s397, s398, s399, s400, s401, s402, s403, s404, s405, s406, s407, s408, s409, s410, s411, s412, s413, s414, s415, s416, s417, s418, s419, s420, s421, s422], []⟩ w1 := by
  conv => arg 2; whnf
  conv => arg 4; zeta
  cases one with
  | false =>
    repeat (first | (go_at_K; go_step; exact fp18 B5 B6 B7 HC G) | go_step)
  | true =>
    obtain ⟨hT, hfast⟩ := too_is HT.out
    obtain ⟨hln, hmost, htog, hM, hf0, hf1⟩ := hT
    obtain ⟨x0, hx0⟩ := get_of_lt (l := l) (k := 0) (by omega)
    have hn0 := n0_of hx0
    have hmv0 := (htog x0 (mem_of_get hx0)).1
    obtain ⟨nn, hnn⟩ : ∃ nn : Nat, n0 l = nn := ⟨(n0 l).toNat, by have := hmv0.2.2; omega⟩
    have hnb : 1 ≤ nn ∧ nn ≤ 64 := by have := hmv0.2.2; omega
    have hsb := sumC_bd mu hM.1
    have h40 := hM.2.2
    obtain ⟨y1, y2, y3, y4, y5⟩ := x0
    have hy5 : y5 = (nn : Int) := by rw [← hnn, hn0]
    subst hy5
    rw [hnn] at hf1
    have Hfast : Hid (fast = tooL l (fstF mu f nn) most l.length) := by unfold Hid; rw [hfast, hnn, Int.toNat_natCast]
    have Htog := Lib.hid htog
    have HM := Lib.hid hM
    have Hx0 := Lib.hid hx0
    have wfn : IntKind.i64.wrap (f + (nn : Int)) = f + (nn : Int) := IntWalk.i64_in _ (by omega)
    have Hf1 := Lib.hid hf1
    have hfb : f ≤ 500 := by omega
    clear hn0 hmv0 hnn htog hM hx0 hfast HT
    go_wp2_with fail
    go_loopw [40, 41, 42, 43, 44] (fun q i _ _ _ wr => ∃ k : Nat, i = .int .i64 (f + (k : Int)) ∧ k ≤ nn ∧ q = .int .i64 (fstF mu f k) ∧ Gw w1 wr) (fun _ i _ _ _ _ => (f + (nn : Int) - intOf i).toNat)
    case atStart => exact ⟨0, by simp, by omega, rfl, Gw.refl _⟩
    case round =>
      obtain ⟨wv, rfl⟩ : ∃ wv : World, wv = wr := ⟨_, rfl⟩
      obtain ⟨k, rfl, hk, rfl, hg⟩ := hrel
      obtain ⟨b1, off1, rfl, hb1, -, -, -, -, c4⟩ := (rdl.gw hg).get5 Hx0.out
      dsimp only at c4
      have hlz : (0 : Int) < (l.length : Int) := by omega
      by_cases hlt : k < nn
      · have T := fun u A (c : Nat) (h : Rd u A mu) => s_MeasureAt A c mu (f + (k : Int)) u HM.out (by omega) (by have := Hf1.out; omega) h
        have hil := idxF_lt mu (f + (k : Int)) (by omega) (by have := Hf1.out; omega)
        obtain ⟨y, hy⟩ := get_of_lt hil
        have hyb := HM.out.1 y (mem_of_get hy)
        have hsucc := fstF_succ hy
        obtain ⟨b2, off2, rfl, hb2', d0, d1⟩ := (rdm.gw hg).get2 hy
        generalize idxF mu (f + (k : Int)) = ix at *
        generalize remF mu (f + (k : Int)) = rx at *
        have T := Lib.hid T
        have Hs := Lib.hid hsucc
        obtain ⟨m1, m2⟩ := y
        dsimp only at d0 d1 hyb
        have hltz : f + (k : Int) < f + (nn : Int) := by omega
        have wk : IntKind.i64.wrap (f + (k : Int) + 1) = f + ((k + 1 : Nat) : Int) := by rw [IntWalk.i64_in _ (by omega)]; omega
        have hi0 : (0 : Int) ≤ (ix : Int) := by omega
        have hi1 : (ix : Int) < (mu.length : Int) := by omega
        obtain ⟨q, hq⟩ : ∃ q, fstF mu f k = q := ⟨_, rfl⟩
        have Hq := Lib.hid hq
        rw [hq]
        clear hy hsucc hil hq
        go_wp2_with fail
        refine (T.out _ _ _ (rdm.gw hg)).mono ?_
        rintro _ w2 ⟨rfl, hb2⟩
        have d1' := (hb2.cells b2 (off2 + ix * 2 + 1) hb2').trans d1
        clear d0 d1 c4
        dsimp only
        by_cases hgt : q < m2
        · have hgtz : m2 > q := hgt
          have hnx : Hid (fstF mu f (k + 1) = m2) := by unfold Hid; rw [Hs.out, Hq.out]; omega
          go_wp2_with fail
          go_roundw
          case rel => exact ⟨k + 1, by rfl, by omega, by rw [hnx.out], hg.trans hb2⟩
          case measure => simp [intOf]; omega
        · have hgtz : ¬m2 > q := hgt
          have hnx : Hid (fstF mu f (k + 1) = q) := by unfold Hid; rw [Hs.out, Hq.out]; omega
          go_wp2_with fail
          go_roundw
          case rel => exact ⟨k + 1, by rfl, by omega, by rw [hnx.out], hg.trans hb2⟩
          case measure => simp [intOf]; omega
      · obtain rfl : k = nn := by omega
        have hFb := fst_bd HM.out hf0 (n := k) Hf1.out k (by omega) (Nat.le_refl _)
        have hltz : ¬f + (k : Int) < f + (k : Int) := by omega
        have hmmb : 0 ≤ most * most ∧ most * most ≤ 1000000000 := by
          have := mul_in (x := most) (y := most) (m := 5280) (n := 5280) (by omega) (by omega)
          omega
        obtain ⟨FF, hFF⟩ : ∃ x, fstF mu f k = x := ⟨_, rfl⟩
        have HFF := Lib.hid hFF
        rw [hFF] at hFb ⊢
        obtain ⟨mm, hmm⟩ : ∃ x, most * most = x := ⟨_, rfl⟩
        have Hmm := Lib.hid hmm
        rw [hmm] at hmmb
        have wmm : IntKind.i64.wrap (most * most) = mm := by rw [hmm]; exact IntWalk.i64_in _ (by omega)
        clear hFF hmm
        go_wp2_with fail
        go_loopw [45, 46, 47, 48, 49, 50, 51, 52, 282] (fun _ _ _ _ _ _ _ _ q wx => ∃ i : Nat, q = .int .i64 i ∧ i ≤ l.length ∧ Gw wv wx) (fun _ _ _ _ _ _ _ _ q _ => l.length - (intOf q).toNat)
        case atStart => exact ⟨0, by go_num, Nat.zero_le _, Gw.refl _⟩
        case round =>
          obtain ⟨wo, rfl⟩ : ∃ wo : World, wo = wr := ⟨_, rfl⟩
          obtain ⟨i, rfl, hi, hg2⟩ := hrel
          have hgo := hg.trans hg2
          by_cases hlt2 : i < l.length
          · obtain ⟨x, hx⟩ := get_of_lt hlt2
            have hmx := (Htog.out x (mem_of_get hx)).1
            have hmem := tooL_mem (F := FF) (lim := most) hx l.length
            rw [← HFF.out, ← Hfast.out, HFF.out] at hmem
            obtain ⟨b3, off3, hae, hb3', e0, e1, e2, e3, e4⟩ := (rdl.gw hgo).get5 hx
            simp only [Option.some.injEq, Addr.mk.injEq, and_true] at hae
            obtain ⟨rfl, rfl⟩ := hae
            obtain ⟨x1, x2, x3, x4, x5⟩ := x
            dsimp only at e0 e1 e2 e3 e4 hmx
            have hmx : MoveP x1 x2 x3 x4 x5 := hmx
            obtain ⟨j, k', hjk, hj, hk', -, hfp⟩ := speed_facts hmx hFb
            have hmem2 : Hid ((i : Int) ∈ fast ↔ mm * k' < j) := by
              unfold Hid
              rw [hmem, ← Hmm.out, hfp most]
              exact ⟨fun h => h.2, fun h => ⟨hlt2, h⟩⟩
            have TI := fun u => i_MoveSpeed x1 x2 x3 x4 x5 FF u
            have TS := fun u => s_MoveSpeed x1 x2 x3 x4 x5 FF u
            rw [hjk] at TI TS
            have TI := Lib.hid TI
            have TS := Lib.hid TS
            have bx := BoxR.new wo #[.int .i64 x1, .int .i64 x2, .int .i64 x3, .int .i64 x4, .int .i64 x5] 39
            have hal : Gw wo (wo.alloc (.cells #[.int .i64 x1, .int .i64 x2, .int .i64 x3, .int .i64 x4, .int .i64 x5] 39)) := (Gw.refl wo).alloc _
            have bx := Lib.hid bx
            have hal := Lib.hid hal
            have ej : (j != j) = false := by simp
            have ek : (k' != k') = false := by simp
            clear hx hmem hjk hfp hmx
            go_wp2_with fail
            refine (TI.out _).mono ?_
            rintro _ w3 ⟨rfl, hb3⟩
            have g3 := hal.out.trans hb3
            have z0 := (bx.out.gw hb3).cell 0 rfl
            have z1 := (bx.out.gw hb3).cell 1 rfl
            have z2 := (bx.out.gw hb3).cell 2 rfl
            have z3 := (bx.out.gw hb3).cell 3 rfl
            have z4 := (bx.out.gw hb3).cell 4 rfl
            clear e0 e1 e2 e3 e4 TI
            dsimp only
            go_wp2_with fail
            refine (TS.out _).mono ?_
            rintro _ w4 ⟨rfl, hb4⟩
            have g4 := g3.trans hb4
            clear z0 z1 z2 z3 z4 TS
            dsimp only
            go_wp2_with fail
            refine (l_qHas _ _ _ _ _ hlf (rdf.gw (hgo.trans g4))).mono ?_
            rintro _ w5 (⟨hp, rfl, hb5⟩ | ⟨hp, rfl, hb5⟩)
            · have hlt3 := Lib.hid (hmem2.out.1 hp)
              clear hp
              go_wp2_with fail
              refine (l_qLess _ _ _ _ hmmb hj ⟨hk'.1, by omega⟩).mono ?_
              rintro _ w6 (⟨hp, rfl, hb6⟩ | ⟨hp, rfl, hb6⟩)
              case inr => exact absurd hlt3.out hp
              clear hp
              go_wp2_with fail
              go_roundw
              case rel => exact ⟨i + 1, by go_num, by omega, hg2.trans ((g4.trans hb5).trans hb6)⟩
              case measure => simp [intOf]; omega
            · have hlt3 : Hid (¬mm * k' < j) := fun h => hp (hmem2.out.2 h)
              clear hp
              go_wp2_with fail
              refine (l_qLess _ _ _ _ hmmb hj ⟨hk'.1, by omega⟩).mono ?_
              rintro _ w6 (⟨hp, rfl, hb6⟩ | ⟨hp, rfl, hb6⟩)
              case inl => exact absurd hp (by first | exact hlt3.out | exact Int.not_lt.2 hlt3.out)
              clear hp
              go_wp2_with fail
              go_roundw
              case rel => exact ⟨i + 1, by go_num, by omega, hg2.trans ((g4.trans hb5).trans hb6)⟩
              case measure => simp [intOf]; omega
          · repeat (first | (go_at_K; go_step; exact fp18 (B5.gw hgo) (B6.gw hgo) (B7.gw hgo) HC (G.trans hgo)) | go_step)
end Go.Proofs.Ythokcddabgojgaa
