/-
  FnPaces: what is left of its text behind 22 statements.
-/
import Derived.Test.YtehkpdepomgapaaFpZ
namespace Go.Proofs.Ytehkpdepomgapaa
open Go.ChangeShapes Go.WideShapes Go.ChangeAt Go.RowKit
set_option linter.unusedVariables false
set_option maxHeartbeats 8000000 in
set_option maxRecDepth 100000 in
theorem tail22 {w W1 w10 : World} {g : Nat} {a b c d sign top bottom tempo limit step size most greatest speed least : Int} {ok one three five seven : Bool} {A1 A2 : Option Addr} {c1 c2 : Nat} {ps : List (Int × Int)} {s0 s1 s2 s3 s4 s35 s36 s37 s38 s39 s40 s41 s42 s43 s44 s45 s46 s47 s48 s49 s50 s51 s52 s53 s54 s55 s56 s57 s58 s59 s60 s61 s62 s63 s64 s65 s66 s67 s68 s69 s70 s71 s72 s73 s74 s75 s76 s77 s78 s79 s80 s81 s82 s83 s84 s85 s86 s87 s88 s89 s90 s91 s92 s93 s94 s95 s96 s97 s98 s99 s100 s101 s102 s103 s104 s105 s106 s107 s108 s109 s110 s111 s112 s113 s114 s115 s116 s117 s118 s119 s120 s121 s122 s123 s124 s125 s126 s127 s128 s129 s130 s131 s132 s133 s134 s135 s136 s137 s138 s139 s140 s141 s142 s143 s144 s145 s146 s147 s148 s149 s150 s151 s152 s153 s154 s155 s156 s157 s158 s159 s160 s161 s162 s163 s164 s165 s166 s167 s168 s169 s170 s171 s172 s173 s174 s175 s176 s177 s178 s179 s180 s181 s182 s183 s184 s185 s186 s187 s188 s189 s190 s191 s192 s193 s194 s195 s196 s197 s198 s199 s200 s201 s202 s203 s204 s205 s206 s207 s208 s209 s210 s211 s212 s213 s214 s215 s216 s217 s218 s219 s220 s221 s222 s223 s224 s225 s226 s227 s228 s229 s230 s231 s232 s233 s234 s235 s236 s237 s238 s239 s240 s241 s242 s243 s244 s245 s246 s247 s248 s249 s250 s251 s252 s253 s254 s255 s256 s257 s258 s259 s260 s261 s262 s263 s264 s265 s266 s267 s268 s269 s270 s271 s272 s273 s274 s275 s276 s277 s278 s279 s280 s281 s282 s283 s284 s285 s286 s287 s288 s289 s290 s291 s292 s293 s294 s295 s296 s297 s298 s299 s300 s301 s302 s303 s304 s305 s306 s307 s308 s309 s310 s311 s312 s313 s314 s315 s316 s317 s318 s319 s320 s321 s322 s323 s324 s325 s326 s327 s328 s329 s330 s331 s332 s333 s334 s335 s336 s337 s338 s339 s340 s341 s342 s343 s344 s345 s346 s347 s348 s349 s350 s351 s352 s353 s354 s355 s356 s357 s358 s359 s360 s361 s362 s363 : Value} (GW : Gw w W1) (hs0 : g < W1.heap.size) (hs1 : g + 1 < W1.heap.size) (e0 : W1.cell? ⟨g, 0, none⟩ = some (.int .i64 a)) (e1 : W1.cell? ⟨g, 1, none⟩ = some (.int .i64 b)) (e2 : W1.cell? ⟨g + 1, 0, none⟩ = some (.int .i64 c)) (e3 : W1.cell? ⟨g + 1, 1, none⟩ = some (.int .i64 d)) (F2 : Hid (ok = true → (compSpeeds c d a b).2 = true ∧ (compSpeeds c d a b).1 = -sign ∧ (-1 ≤ sign ∧ sign ≤ 1))) (F7 : Hid (seven = true → (40 ≤ speed ∧ speed ≤ 5280) ∧ 1 ≤ least ∧ least ≤ 24)) (F8 : Hid (seven = true → ∀ n, least ≤ n → n ≤ 24 → ((∃ x ∈ ps, x.1 = n) ↔ ((mostTempo n speed).2 = true ∧ (mostTempo n speed).1 * n = speed)))) (hlr : ps.length ≤ 1048576) (ht3 : Sm speed) (hl3 : Sm least) (rd2 : Rd w10 A2 ps) (G10 : Gw W1 w10) :
    Code.wp Try.prog (Code.tailOf 22 (Try.f3.body.getD .skip)) (bodyPost Try.prog Try.f3 fun e w' => e = .returned (.bool true) ∧ Gw w w') ⟨#[s0, s1, s2, s3, s4, .pointer (some ⟨g, 0, none⟩), .pointer (some ⟨g + 1, 0, none⟩), .int .i64 sign, .bool ok, .int .i64 sign, .bool ok, .int .i64 top, .int .i64 bottom, .bool one, .int .i64 top, .int .i64 bottom, .bool one, .int .i64 tempo, .int .i64 limit, .int .i64 step, .bool three, .int .i64 step, .bool three, .int .i64 size, .int .i64 most, .int .i64 greatest, .bool five, .int .i64 greatest, .bool five, .int .i64 speed, .int .i64 least, .slice A1 ps.length c1, .bool seven, .slice A2 ps.length c2, .bool seven, s35, s36, s37, s38, s39, s40, s41, s42, s43, s44, s45, s46, s47, s48, s49, s50, s51, s52, s53, s54, s55, s56, s57, s58, s59, s60, s61, s62, s63, s64, s65, s66, s67, s68, s69, s70, s71, s72, s73, s74, s75, s76, s77, s78, s79, s80, s81, s82, s83, s84, s85, s86, s87, s88, s89, s90, s91, s92, s93, s94, s95, s96, s97, s98, s99, s100, s101, s102, s103, s104, s105, s106, s107, s108, s109, s110, s111, s112, s113, s114, s115, s116, s117, s118, s119, s120, s121, s122, s123, s124, s125, s126, s127, s128, s129, s130, s131, s132, s133, s134, s135, s136, s137, s138, s139, s140, s141, s142, s143, s144, s145, s146, s147, s148, s149, s150, s151, s152, s153, s154, s155, s156, s157, s158, s159, s160, s161, s162, s163, s164, s165, s166, s167, s168, s169, s170, s171, s172, s173, s174, s175, s176, s177, s178, s179, s180, s181, s182, s183, s184, s185, s186, s187, s188, s189, s190, s191, s192, s193, s194, s195, s196, s197, s198, s199, s200, s201, s202, s203, s204, s205, s206, s207, s208, s209, s210, s211, s212, s213, s214, s215, s216, s217, s218, s219, s220, s221, s222, s223, s224, s225, s226, s227, s228, s229, s230, s231, s232, s233, s234, s235, s236, s237, s238, s239, s240, s241, s242, s243, s244, s245, s246, s247, s248, s249, s250, s251, s252, s253, s254, s255, s256, s257, s258, s259, s260, s261, s262, s263, s264, s265, s266, s267, s268, s269, s270, s271, s272, s273, s274, s275, s276, s277, s278, s279, s280, s281, s282, s283, s284, s285, s286, s287, s288, s289, s290, s291, s292, s293, s294, s295, s296, s297, s298, s299, s300, s301, s302, s303, s304, s305, s306, s307, s308, s309, s310, s311, s312, s313, s314, s315, s316, s317, s318, s319, s320, s321, s322, s323, s324, s325, s326, s327, s328, s329, s330, s331, s332, s333, s334, s335, s336, s337, s338, s339, s340, s341, s342, s343, s344, s345, s346, s347, s348, s349, s350, s351, s352, s353, s354, s355, s356, s357, s358, s359, s360, s361, s362, s363], []⟩ w10 := by
  conv => arg 2; whnf
  conv => arg 4; zeta
  have hcc := G10.cells
  cases seven
  · repeat (first | (go_at_K; go_step; exact tail23 GW hs0 hs1 e0 e1 e2 e3 F2 G10) | go_step)
  · obtain ⟨hs1', hl1'⟩ := F7.out rfl
    have N8 : Hid (∀ n, least ≤ n → n ≤ 24 → ((∃ x ∈ ps, x.1 = n) ↔ ((mostTempo n speed).2 = true ∧ (mostTempo n speed).1 * n = speed))) := F8.out rfl
    clear F8
    go_wp2_with fail
    go_loopw [38] (fun s wr => ∃ n : Int, s = .int .i64 n ∧ least ≤ n ∧ n ≤ 25 ∧ Gw W1 wr ∧ Gw w10 wr) (fun s _ => (25 - intOf s).toNat)
    case atStart => exact ⟨least, rfl, by omega, by omega, G10, Gw.refl _⟩
    case round =>
      obtain ⟨n, rfl, hn1, hn2, hgw, hgw2⟩ := hrel
      by_cases hlt : n ≤ 24
      · obtain ⟨t, was, MI, MS, F9, F10⟩ : ∃ (s : Int) (o : Bool), (∀ W, Calls Try.prog 15 #[.int .i64 n, .int .i64 speed] W fun e w' => e = .returned (.tuple #[.int .i64 s, .bool o]) ∧ W = w') ∧
            (∀ W, Calls Try.prog 16 #[.int .i64 n, .int .i64 speed] W fun e w' => e = .returned (.tuple #[.int .i64 s, .bool o]) ∧ W = w') ∧
            Hid (o = true → (40 ≤ s ∧ s ≤ 220) ∧ (1 ≤ n ∧ n ≤ 24) ∧ (40 ≤ speed ∧ speed ≤ 5280) ∧ (0 ≤ s * n ∧ s * n ≤ speed) ∧ (0 ≤ (s + 1) * n ∧ (s + 1) * n ≤ 10000) ∧ (220 ≤ s ∨ speed < (s + 1) * n)) ∧
            Hid ((∃ x ∈ ps, x.1 = n) ↔ (o = true ∧ s * n = speed)) :=
          ⟨_, _, i_MostTempo n speed, s_MostTempo n speed, mostTempo_ok n speed, N8.out n hn1 hlt⟩
        go_wp2_with (first | (go_at_call 15; refine (MI _).mono ?_; rintro _ _ ⟨rfl, rfl⟩) | (go_at_call 16; refine (MS _).mono ?_; rintro _ _ ⟨rfl, rfl⟩))
        go_loopw [43, 327] (fun f i wr2 => ∃ k : Nat, i = .int .i64 k ∧ f = .bool (anyTo ps n k) ∧ k ≤ ps.length ∧ Gw W1 wr2 ∧ Gw w10 wr2) (fun _ i _ => ps.length - (intOf i).toNat)
        case atStart => exact ⟨0, by go_num, rfl, Nat.zero_le _, hgw, hgw2⟩
        case round =>
          obtain ⟨k, rfl, rfl, hk, hg, hg2⟩ := hrel
          generalize hfd : anyTo ps n k = fd at *
          have Hfd := Lib.hid hfd
          clear hfd
          by_cases hkl : k < ps.length
          · obtain ⟨x, hx⟩ := get_of_lt hkl
            obtain ⟨b', off', rfl, hb', d0, d1⟩ := (rd2.gw hg2).get2 hx
            have hn : Hid (anyTo ps n (k + 1) = (fd || x.1 == n)) := by unfold Hid; rw [anyTo_succ hx, Hfd.out]
            clear hx
            cases fd
            · by_cases hxn : x.1 = n
              · have hxq : (x.1 == n) = true := by simp [hxn]
                have hxn := Lib.hid hxn
                go_wp2_with fail
                go_roundw
                case rel => exact ⟨k + 1, by go_num, by rw [hn.out, hxq]; rfl, by omega, by (repeat (first | with_reducible exact Gw.refl _ | with_reducible assumption | ((with_reducible refine Gw.set ?_ ?_ _); rotate_left; (focus (first | (simp; done) | (simp; omega) | omega))) | with_reducible refine Gw.alloc ?_ _ | with_reducible refine Gw.drew ?_ | with_reducible refine Gw.drewN ?_ _ | (refine Gw.trans ?_ (by with_reducible assumption)))), by (repeat (first | with_reducible exact Gw.refl _ | with_reducible assumption | ((with_reducible refine Gw.set ?_ ?_ _); rotate_left; (focus (first | (simp; done) | (simp; omega) | omega))) | with_reducible refine Gw.alloc ?_ _ | with_reducible refine Gw.drew ?_ | with_reducible refine Gw.drewN ?_ _ | (refine Gw.trans ?_ (by with_reducible assumption))))⟩
                case measure => simp [intOf]; omega
              · have hxq : (x.1 == n) = false := by simp [hxn]
                have hxn := Lib.hid hxn
                go_wp2_with fail
                go_roundw
                case rel => exact ⟨k + 1, by go_num, by rw [hn.out, hxq]; rfl, by omega, by (repeat (first | with_reducible exact Gw.refl _ | with_reducible assumption | ((with_reducible refine Gw.set ?_ ?_ _); rotate_left; (focus (first | (simp; done) | (simp; omega) | omega))) | with_reducible refine Gw.alloc ?_ _ | with_reducible refine Gw.drew ?_ | with_reducible refine Gw.drewN ?_ _ | (refine Gw.trans ?_ (by with_reducible assumption)))), by (repeat (first | with_reducible exact Gw.refl _ | with_reducible assumption | ((with_reducible refine Gw.set ?_ ?_ _); rotate_left; (focus (first | (simp; done) | (simp; omega) | omega))) | with_reducible refine Gw.alloc ?_ _ | with_reducible refine Gw.drew ?_ | with_reducible refine Gw.drewN ?_ _ | (refine Gw.trans ?_ (by with_reducible assumption))))⟩
                case measure => simp [intOf]; omega
            · go_wp2_with fail
              go_roundw
              case rel => exact ⟨k + 1, by go_num, by rw [hn.out]; rfl, by omega, by (repeat (first | with_reducible exact Gw.refl _ | with_reducible assumption | ((with_reducible refine Gw.set ?_ ?_ _); rotate_left; (focus (first | (simp; done) | (simp; omega) | omega))) | with_reducible refine Gw.alloc ?_ _ | with_reducible refine Gw.drew ?_ | with_reducible refine Gw.drewN ?_ _ | (refine Gw.trans ?_ (by with_reducible assumption)))), by (repeat (first | with_reducible exact Gw.refl _ | with_reducible assumption | ((with_reducible refine Gw.set ?_ ?_ _); rotate_left; (focus (first | (simp; done) | (simp; omega) | omega))) | with_reducible refine Gw.alloc ?_ _ | with_reducible refine Gw.drew ?_ | with_reducible refine Gw.drewN ?_ _ | (refine Gw.trans ?_ (by with_reducible assumption))))⟩
              case measure => simp [intOf]; omega
          · have hF : Hid (fd = decide (∃ x ∈ ps, x.1 = n)) := by unfold Hid; rw [← Hfd.out]; exact anyTo_all (by omega)
            cases was
            · obtain rfl : fd = false := by rw [hF.out]; simp only [decide_eq_false_iff_not]; intro h; have := F10.out.1 h; simp at this
              go_wp2_with fail
              go_roundw
              case rel => exact ⟨n + 1, rfl, by omega, by omega, hg, hg2⟩
              case measure => simp [intOf]; omega
            · obtain ⟨g1, g2, g3, g4, g5, g6⟩ := F9.out rfl
              by_cases hT : t * n = speed
              · obtain rfl : fd = true := by rw [hF.out]; simp only [decide_eq_true_eq]; exact F10.out.2 ⟨rfl, hT⟩
                have hTq : (t * n == speed) = true := by simp [hT]
                have hT := Lib.hid hT
                go_wp2_with fail
                go_roundw
                case rel => exact ⟨n + 1, rfl, by omega, by omega, hg, hg2⟩
                case measure => simp [intOf]; omega
              · obtain rfl : fd = false := by rw [hF.out]; simp only [decide_eq_false_iff_not]; intro h; exact hT (F10.out.1 h).2
                have hTq : (t * n == speed) = false := by simp [hT]
                have hT := Lib.hid hT
                go_wp2_with fail
                go_roundw
                case rel => exact ⟨n + 1, rfl, by omega, by omega, hg, hg2⟩
                case measure => simp [intOf]; omega
      · obtain rfl : n = 25 := by omega
        repeat (first | (go_at_K; go_step; exact tail23 GW hs0 hs1 e0 e1 e2 e3 F2 hgw) | go_step)
end Go.Proofs.Ytehkpdepomgapaa
