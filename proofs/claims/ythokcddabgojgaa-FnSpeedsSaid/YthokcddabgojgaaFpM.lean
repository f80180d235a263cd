/-
  FnSpeeds: what is left of its text behind some statements.
-/
import Derived.Test.YthokcddabgojgaaFpL
namespace Go.Proofs.Ythokcddabgojgaa
open Go.ChangeShapes Go.WideShapes Go.ChangeAt Go.RowKit
set_option linter.unusedVariables false
set_option maxHeartbeats 16000000 in
set_option maxRecDepth 100000 in
theorem fp16 {w w1 : World} {P5 P6 P7 : Nat} {a b c d s t lim cn : Int} {ok : Bool} {Al Am Af : Option Addr} {cl cm cf : Nat} {l : List MvT} {mu : List (Int × Int)} {f most : Int} {one : Bool} {fast : List Int} {PM : Nat} {a' b' c' d' n' tempo top bot : Int} {three : Bool} {s0 s1 s2 s3 s4 s9 s12 s17 s20 s23 s24 s28 s29 s30 s31 s32 s33 s34 s35 s36 s37 s38 s39 s40 s41 s42 s43 s44 s45 s46 s47 s48 s49 s50 s51 s52 s53 s54 s55 s56 s57 s58 s59 s60 s61 s62 s63 s64 s65 s66 s67 s68 s69 s70 s71 s72 s73 s74 s75 s76 s77 s78 s79 s80 s81 s82 s83 s84 s85 s86 s87 s88 s89 s90 s91 s92 s93 s94 s95 s96 s97 s98 s99 s100 s101 s102 s103 s104 s105 s106 s107 s108 s109 s110 s111 s112 s113 s114 s115 s116 s117 s118 s119 s120 s121 s122 s123 s124 s125 s126 s127 s128 s129 s130 s131 s132 s133 s134 s135 s136 s137 s138 s139 s140 s141 s142 s143 s144 s145 s146 s147 s148 s149 s150 s151 s152 s153 s154 s155 s156 s157 s158 s159 s160 s161 s162 s163 s164 s165 s166 s167 s168 s169 s170 s171 s172 s173 s174 s175 s176 s177 s178 s179 s180 s181 s182 s183 s184 s185 s186 s187 s188 s189 s190 s191 s192 s193 s194 s195 s196 s197 s198 s199 s200 s201 s202 s203 s204 s205 s206 s207 s208 s209 s210 s211 s212 s213 s214 s215 s216 s217 s218 s219 s220 s221 s222 s223 s224 s225 s226 s227 s228 s229 s230 s231 s232 s233 s234 s235 s236 s237 s238 s239 s240 s241 s242 s243 s244 s245 s246 s247 s248 s249 s250 s251 s252 s253 s254 s255 s256 s257 s258 s259 s260 s261 s262 s263 s264 s265 s266 s267 s268 s269 s270 s271 s272 s273 s274 s275 s276 s277 s278 s279 s280 s281 s282 s283 s284 s285 s286 s287 s288 s289 s290 s291 s292 s293 s294 s295 s296 s297 s298 s299 s300 s301 s302 s303 s304 s305 s306 s307 s308 s309 s310 s311 s312 s313 s314 s315 s316 s317 s318 s319 s320 s321 s322 s323 s324 s325 s326 s327 s328 s329 s330 s331 s332 s333 s334 s335 s336 s337 s338 s339 s340 s341 s342 s343 s344 s345 s346 s347 s348 s349 s350 s351 s352 s353 s354 s355 s356 s357 s358 s359 s360 s361 s362 s363 s364 s365 s366 s367 s368 s369 s370 s371 s372 s373 s374 s375 s376 s377 s378 s379 s380 s381 s382 s383 s384 s385 s386 s387 s388 s389 s390 s391 s392 s393 s394 s395 s396 s397 s398 s399 s400 s401 s402 s403 s404 s405 s406 s407 s408 s409 s410 s411 s412 s413 s414 s415 s416 s417 s418 s419 s420 s421 s422 : Value} (B5 : BoxR w1 P5 #[.int .i64 a, .int .i64 b] 24) (B6 : BoxR w1 P6 #[.int .i64 c, .int .i64 d] 24) (B7 : BoxR w1 P7 #[.int .i64 s, .int .i64 t] 26) (HC : Hid (countsAt a b c d s t lim = (cn, ok))) (rdl : Rd w1 Al l) (hll : l.length ≤ 1048576) (rdm : Rd w1 Am mu) (rdf : Rd w1 Af fast) (hlf : fast.length ≤ 1048576) (HT : Hid (tooF l mu f most = (fast, one))) (BM : BoxR w1 PM #[.int .i64 a', .int .i64 b', .int .i64 c', .int .i64 d', .int .i64 n'] 39) (HS : Hid (moveSpeed a' b' c' d' n' tempo = (top, bot, three))) (G : Gw w w1) :
    Code.wp Try.prog (Code.tailOf 16 (Try.f3.body.getD .skip)) (bodyPost Try.prog Try.f3 fun e w' => e = .returned (.bool true) ∧ Gw w w') ⟨#[s0, s1, s2, s3, s4, .pointer (some ⟨P5, 0, none⟩), .pointer (some ⟨P6, 0, none⟩), .pointer (some ⟨P7, 0, none⟩), .int .i64 lim, s9, .bool ok, .int .i64 cn, s12, .slice Al l.length cl, .slice Am mu.length cm, .int .i64 f, .int .i64 most, s17, .bool one, .slice Af fast.length cf, s20, .pointer (some ⟨PM, 0, none⟩), .int .i64 tempo, s23, s24, .bool three, .int .i64 top, .int .i64 bot, s28, s29, s30, s31, s32, s33, s34, s35, s36, s37, s38, s39, s40, s41, s42, s43, s44, s45, s46, s47, s48, s49, s50, s51, s52, s53, s54, s55, s56, s57, s58, s59, s60, s61, s62, s63, s64, s65, s66, s67, s68, s69, s70, s71, s72, s73, s74, s75, s76, s77, s78, s79, s80, s81, s82, s83, s84, s85, s86, s87, s88, s89, s90, s91, s92, s93, s94, s95, s96, s97, s98, s99, s100, s101, s102, s103, s104, s105, s106, s107, s108, s109, s110, s111, s112, s113, s114, s115, s116, s117, s118, s119, s120, s121, s122, s123, s124, s125, s126, s127, s128, s129, s130, s131, s132, s133, s134, s135, s136, s137, s138, s139, s140, s141, s142, s143, s144, s145, s146, s147, s148, s149, s150, s151, s152, s153, s154, s155, s156, s157, s158, s159, s160, s161, s162, s163, s164, s165, s166, s167, s168, s169, s170, s171, s172, s173, s174, s175, s176, s177, s178, s179, s180, s181, s182, s183, s184, s185, s186, s187, s188, s189, s190, s191, s192, s193, s194, s195, s196, s197, s198, s199, s200, s201, s202, s203, s204, s205, s206, s207, s208, s209, s210, s211, s212, s213, s214, s215, s216, s217, s218, s219, s220, s221, s222, s223, s224, s225, s226, s227, s228, s229, s230, s231, s232, s233, s234, s235, s236, s237, s238, s239, s240, s241, s242, s243, s244, s245, s246, s247, s248, s249, s250, s251, s252, s253, s254, s255, s256, s257, s258, s259, s260, s261, s262, s263, s264, s265, s266, s267, s268, s269, s270, s271, s272, s273, s274, s275, s276, s277, s278, s279, s280, s281, s282, s283, s284, s285, s286, s287, s288, s289, s290, s291, s292, s293, s294, s295, s296, s297, s298, s299, s300, s301, s302, s303, s304, s305, s306, s307, s308, s309, s310, s311, s312, s313, s314, s315, s316, s317, s318, s319, s320, s321, s322, s323, s324, s325, s326, s327, s328, s329, s330, s331, s332, s333, s334, s335, s336, s337, s338, s339, s340, s341, s342, s343, s344, s345, s346, s347, s348, s349, s350, s351, s352, s353, s354, s355, s356, s357, s358, s359, s360, s361, s362, s363, s364, s365, s366, s367, s368, s369, s370, s371, s372, s373, s374, s375, s376, s377, s378, s379, s380, s381, s382, s383, s384, s385, s386, s387, s388, s389, s390, s391, s392, s393, s394, s395, s396, s397, s398, s399, s400, s401, s402, s403, s404, s405, s406, s407, s408, s409, s410, s411, s412, s413, s414, s415, s416, s417, s418, s419, s420, s421, s422], []⟩ w1 := by
  conv => arg 2; whnf
  conv => arg 4; zeta
  cases three with
  | false =>
    repeat (first | (go_at_K; go_step; exact fp17 B5 B6 B7 HC rdl hll rdm rdf hlf HT G) | go_step)
  | true =>
    obtain ⟨hmv, ht⟩ := speed_is HS.out
    obtain ⟨j, k, hjk, hj, hk, hcr, -⟩ := speed_facts hmv ht
    have hh := HS.out.symm.trans hjk
    simp only [Prod.mk.injEq, and_true] at hh
    obtain ⟨rfl, rfl⟩ := hh
    have T := fun u => i_SquareOf a' b' c' d' u hmv.1 hmv.2.1
    have hsq := sq_bd hmv.1 hmv.2.1
    have hn := hmv.2.2
    have ht' := ht
    generalize sq a' b' c' d' = S at *
    obtain ⟨S1, h1⟩ : ∃ x, S * tempo = x := ⟨_, rfl⟩
    rw [h1] at hcr
    obtain ⟨S2, h2⟩ : ∃ x, S1 * tempo = x := ⟨_, rfl⟩
    rw [h2] at hcr
    obtain ⟨S3, h3⟩ : ∃ x, S2 * bot = x := ⟨_, rfl⟩
    rw [h3] at hcr
    obtain ⟨T1, h4⟩ : ∃ x, top * n' = x := ⟨_, rfl⟩
    rw [h4] at hcr
    have m1 := mul_in (x := S) (y := tempo) hsq ⟨by omega, ht.2⟩
    have m2 := mul_in (x := S1) (y := tempo) (m := 2089984 * 220) (by rw [← h1]; exact m1) ⟨by omega, ht.2⟩
    have m3 := mul_in (x := S2) (y := bot) (m := 2089984 * 220 * 220) (n := 4096) (by rw [← h2]; exact m2) (by omega)
    have m4 := mul_in (x := top) (y := n') (m := 1000000000000) (n := 64) (by omega) (by omega)
    rw [h1] at m1
    rw [h2] at m2
    rw [h3] at m3
    rw [h4] at m4
    have wr1 : IntKind.i64.wrap (S * tempo) = S1 := by rw [h1]; exact IntWalk.i64_in _ (by omega)
    have wr2 : IntKind.i64.wrap (S1 * tempo) = S2 := by rw [h2]; exact IntWalk.i64_in _ (by omega)
    have wr3 : IntKind.i64.wrap (S2 * bot) = S3 := by rw [h3]; exact IntWalk.i64_in _ (by omega)
    have wr4 : IntKind.i64.wrap (top * n') = T1 := by rw [h4]; exact IntWalk.i64_in _ (by omega)
    have wr5 : IntKind.i64.wrap (T1 * n') = S3 := by rw [← hcr]; exact IntWalk.i64_in _ (by omega)
    have e1 : (S3 != S3) = false := by simp
    have T := Lib.hid T
    have z0 := BM.cell 0 rfl
    have z1 := BM.cell 1 rfl
    have z2 := BM.cell 2 rfl
    have z3 := BM.cell 3 rfl
    clear hjk hj hk hcr hmv ht ht' hsq hn h1 h2 h3 h4 m1 m2 m3 m4 HS
    go_wp2_with fail
    refine (T.out _).mono ?_
    rintro _ w2 ⟨rfl, hb2⟩
    have z4 := (BM.gw hb2).cell 4 rfl
    clear z0 z1 z2 z3 T
    dsimp only
    repeat (first | (go_at_K; go_step; exact fp17 (B5.gw hb2) (B6.gw hb2) (B7.gw hb2) HC (rdl.gw hb2) hll (rdm.gw hb2) (rdf.gw hb2) hlf HT (G.trans hb2)) | go_step)
end Go.Proofs.Ythokcddabgojgaa
