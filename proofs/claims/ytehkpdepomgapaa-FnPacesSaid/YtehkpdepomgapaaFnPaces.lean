/-
  The law FnPaces answers true at every input, and its arguments read afterwards as they read before.
-/
import Derived.Test.YtehkpdepomgapaaRows
import Derived.Test.YtehkpdepomgapaaFpG
import Derived.Test.YtehkpdepomgapaaLaw
import Derived.Test.YtehkpdepomgapaaTell
namespace Go.Proofs.Ytehkpdepomgapaa.lawFnPaces
open Go.ChangeShapes Go.WideShapes Go.ChangeAt Go.RowKit
set_option linter.unusedVariables false

theorem own : ownKnob Try.prog.godebug = none := by kernel_rfl

-- params: rows:code:UInt8 rows:more:UInt8
-- import: FpG
-- import: Law
-- import: Tell
set_option maxHeartbeats 8000000 in
set_option maxRecDepth 100000 in
theorem walk (w : World) (A_code : Option Addr) (code : List UInt8) (c_code : Nat) (hm_code : code.length ≤ 9223372036854775807) (rd_code : Rd w A_code code) (A_more : Option Addr) (more : List UInt8) (c_more : Nat) (hm_more : more.length ≤ 9223372036854775807) (rd_more : Rd w A_more more) :
    Calls Try.prog 3 #[.slice A_code code.length c_code, .slice A_more more.length c_more] w fun e w' => e = .returned (.bool true) ∧ Gw w w' := by
  go_enter Try.func3, Try.ntmps3
  go_wp2_with fail
  · go_ret
    exact ⟨rfl, by (repeat (first | with_reducible exact Gw.refl _ | with_reducible assumption | ((with_reducible refine Gw.set ?_ ?_ _); rotate_left; (focus (first | (simp; done) | (simp; omega) | omega))) | with_reducible refine Gw.alloc ?_ _ | with_reducible refine Gw.drew ?_ | with_reducible refine Gw.drewN ?_ _ | (refine Gw.trans ?_ (by with_reducible assumption))))⟩
  refine (d_CompareSpeeds _ _ _ _ hm_code rd_code).mono ?_
  rintro _ w1 ⟨a, b, c, d, rfl, ⟨ha, hb, hc, hd⟩, G1⟩
  have hz1 := G1.size
  go_wp2_with fail
  have B1 := (Below.heap_alloc _ (.cells #[.int .i64 c, .int .i64 d] 24) w1.heap.size (by simp)).trans (heap_alloc_new w1 (.cells #[.int .i64 a, .int .i64 b] 24))
  have B2 := heap_alloc_new (w1.alloc (.cells #[.int .i64 a, .int .i64 b] 24)) (.cells #[.int .i64 c, .int .i64 d] 24)
  rw [show (w1.alloc (.cells #[.int .i64 a, .int .i64 b] 24)).heap.size = w1.heap.size + 1 by simp] at B2
  have GW := (G1.alloc (.cells #[.int .i64 a, .int .i64 b] 24)).alloc (.cells #[.int .i64 c, .int .i64 d] 24)
  have hsW : ((w1.alloc (.cells #[.int .i64 a, .int .i64 b] 24)).alloc (.cells #[.int .i64 c, .int .i64 d] 24)).heap.size = w1.heap.size + 2 := by simp
  have e0 := cell_of_row _ _ 0 _ _ _ B1
  have e1 := cell_of_row _ _ 1 _ _ _ B1
  have e2 := cell_of_row _ _ 0 _ _ _ B2
  have e3 := cell_of_row _ _ 1 _ _ _ B2
  simp only [List.getElem?_toArray, List.getElem?_cons_zero, List.getElem?_cons_succ] at e0 e1 e2 e3
  generalize (w1.alloc (.cells #[.int .i64 a, .int .i64 b] 24)).alloc (.cells #[.int .i64 c, .int .i64 d] 24) = W1 at *
  have hs0 : w1.heap.size < W1.heap.size := by omega
  have hs1 : w1.heap.size + 1 < W1.heap.size := by omega
  clear B1 B2 hsW
  generalize w1.heap.size = g at *
  obtain ⟨sign, ok, CI, CS, F1, F2⟩ : ∃ (s : Int) (o : Bool), (∀ W, Calls Try.prog 7 #[.agg #[.int .i64 a, .int .i64 b], .agg #[.int .i64 c, .int .i64 d]] W fun e w' => e = .returned (.tuple #[.int .i64 s, .bool o]) ∧ Gw W w') ∧
      (∀ W, Calls Try.prog 8 #[.agg #[.int .i64 a, .int .i64 b], .agg #[.int .i64 c, .int .i64 d]] W fun e w' => e = .returned (.tuple #[.int .i64 s, .bool o]) ∧ Gw W w') ∧
      Hid (o = true → (speedOf a b).2.2 = true) ∧ Hid (o = true → (compSpeeds c d a b).2 = true ∧ (compSpeeds c d a b).1 = -s ∧ (-1 ≤ s ∧ s ≤ 1)) :=
    ⟨_, _, i_CompareSpeeds a b c d, s_CompareSpeeds a b c d, compSpeeds_one, compSpeeds_back⟩
  obtain ⟨top, bottom, one, SI, SS, S3, F3, F1⟩ : ∃ (t u : Int) (o : Bool), (∀ W, Calls Try.prog 9 #[.agg #[.int .i64 a, .int .i64 b]] W fun e w' => e = .returned (.tuple #[.int .i64 t, .int .i64 u, .bool o]) ∧ Gw W w') ∧
      (∀ W, Calls Try.prog 10 #[.agg #[.int .i64 a, .int .i64 b]] W fun e w' => e = .returned (.tuple #[.int .i64 t, .int .i64 u, .bool o]) ∧ Gw W w') ∧
      (∀ W, Calls Try.prog 21 #[.agg #[.int .i64 a, .int .i64 b]] W fun e w' => e = .returned (.bool o) ∧ Gw W w') ∧
      Hid (o = true → PaceP a b ∧ (40 ≤ a * b ∧ a * b ≤ 5280) ∧ (0 ≤ t ∧ t ≤ 5280) ∧ (0 ≤ u ∧ u ≤ 60) ∧ t * 60 = a * b * u) ∧ Hid (ok = true → o = true) :=
    ⟨_, _, _, i_SpeedOf a b, s_SpeedOf a b, i_IsPaceS a b, speedOf_ok a b, F1.out⟩
  go_wp2_with fail
  refine (CI _).mono ?_
  rintro _ w2 ⟨rfl, hb2⟩
  have G2 : Gw W1 w2 := (Gw.refl W1).trans hb2
  clear hb2
  have hc2 := G2.cells
  go_wp2_with fail
  refine (CS _).mono ?_
  rintro _ w3 ⟨rfl, hb3⟩
  have G3 : Gw W1 w3 := G2.trans hb3
  clear hb3
  clear hc2
  have hc3 := G3.cells
  go_wp2_with fail
  refine (SI _).mono ?_
  rintro _ w4 ⟨rfl, hb4⟩
  have G4 : Gw W1 w4 := G3.trans hb4
  clear hb4
  clear hc3
  have hc4 := G4.cells
  go_wp2_with fail
  refine (SS _).mono ?_
  rintro _ w5 ⟨rfl, hb5⟩
  have G5 : Gw W1 w5 := G4.trans hb5
  clear hb5
  clear hc4
  have hc5 := G5.cells
  clear CI CS SI SS G2 G3 G4
  go_wp2_with fail
  refine (d_MostStep _ _ _ _ hm_more (rd_more.gw (GW.trans G5))).mono ?_
  rintro _ w6 ⟨tempo, limit, rfl, ⟨ht1, hl1⟩, hb6⟩
  have G6 : Gw W1 w6 := G5.trans hb6
  clear hb6
  clear hc5
  have hc6 := G6.cells
  obtain ⟨step, three, MI, MS, F4⟩ : ∃ (s : Int) (o : Bool), (∀ W, Calls Try.prog 12 #[.int .i64 tempo, .int .i64 limit] W fun e w' => e = .returned (.tuple #[.int .i64 s, .bool o]) ∧ W = w') ∧
      (∀ W, Calls Try.prog 13 #[.int .i64 tempo, .int .i64 limit] W fun e w' => e = .returned (.tuple #[.int .i64 s, .bool o]) ∧ W = w') ∧
      Hid (o = true → (1 ≤ s ∧ s ≤ 24) ∧ (40 ≤ tempo ∧ tempo ≤ 220) ∧ (40 ≤ limit ∧ limit ≤ 5280) ∧ (0 ≤ s * tempo ∧ s * tempo ≤ limit) ∧ (0 ≤ (s + 1) * tempo ∧ (s + 1) * tempo ≤ 10000) ∧ (24 ≤ s ∨ limit < (s + 1) * tempo)) :=
    ⟨_, _, i_MostStep tempo limit, s_MostStep tempo limit, mostStep_ok tempo limit⟩
  go_wp2_with fail
  refine (MI _).mono ?_
  rintro _ _ ⟨rfl, rfl⟩
  go_wp2_with fail
  refine (MS _).mono ?_
  rintro _ _ ⟨rfl, rfl⟩
  clear MI MS
  go_wp2_with fail
  refine (d_MostTempo _ _ _ _ hm_more (rd_more.gw (GW.trans G6))).mono ?_
  rintro _ w7 ⟨size, most, rfl, ⟨ht2, hl2⟩, hb7⟩
  have G7 : Gw W1 w7 := G6.trans hb7
  clear hb7
  clear hc6
  have hc7 := G7.cells
  obtain ⟨greatest, five, MI, MS, F5⟩ : ∃ (s : Int) (o : Bool), (∀ W, Calls Try.prog 15 #[.int .i64 size, .int .i64 most] W fun e w' => e = .returned (.tuple #[.int .i64 s, .bool o]) ∧ W = w') ∧
      (∀ W, Calls Try.prog 16 #[.int .i64 size, .int .i64 most] W fun e w' => e = .returned (.tuple #[.int .i64 s, .bool o]) ∧ W = w') ∧
      Hid (o = true → (40 ≤ s ∧ s ≤ 220) ∧ (1 ≤ size ∧ size ≤ 24) ∧ (40 ≤ most ∧ most ≤ 5280) ∧ (0 ≤ s * size ∧ s * size ≤ most) ∧ (0 ≤ (s + 1) * size ∧ (s + 1) * size ≤ 10000) ∧ (220 ≤ s ∨ most < (s + 1) * size)) :=
    ⟨_, _, i_MostTempo size most, s_MostTempo size most, mostTempo_ok size most⟩
  go_wp2_with fail
  refine (MI _).mono ?_
  rintro _ _ ⟨rfl, rfl⟩
  go_wp2_with fail
  refine (MS _).mono ?_
  rintro _ _ ⟨rfl, rfl⟩
  clear MI MS
  go_wp2_with fail
  refine (d_PacesAt _ _ _ _ hm_more (rd_more.gw (GW.trans G7))).mono ?_
  rintro _ w8 ⟨speed, least, rfl, ⟨ht3, hl3⟩, hb8⟩
  have G8 : Gw W1 w8 := G7.trans hb8
  clear hb8
  clear hc7
  have hc8 := G8.cells
  obtain ⟨ps, seven, PI, PS, hlr, F6, F7, F8⟩ : ∃ (l : List (Int × Int)) (o : Bool), (∀ W, Calls Try.prog 18 #[.int .i64 speed, .int .i64 least] W fun e w' => ∃ A c, e = .returned (.tuple #[.slice A l.length c, .bool o]) ∧ w'.ownsRow W.heap.size 24 2 (.slice A l.length c) l.length (flat l) ∧ Gw W w') ∧
      (∀ W, Calls Try.prog 19 #[.int .i64 speed, .int .i64 least] W fun e w' => ∃ A c, e = .returned (.tuple #[.slice A l.length c, .bool o]) ∧ w'.ownsRow W.heap.size 24 2 (.slice A l.length c) l.length (flat l) ∧ Gw W w') ∧
      l.length ≤ 1048576 ∧ Hid (∀ k x, l[k]? = some x → lastOf l k least < x.1 ∧ PaceP x.1 x.2 ∧ x.1 * x.2 = speed ∧ least ≤ x.1) ∧ Hid (o = true → (40 ≤ speed ∧ speed ≤ 5280) ∧ 1 ≤ least ∧ least ≤ 24) ∧
      Hid (o = true → ∀ n, least ≤ n → n ≤ 24 → ((∃ x ∈ l, x.1 = n) ↔ ((mostTempo n speed).2 = true ∧ (mostTempo n speed).1 * n = speed))) :=
    ⟨_, _, i_PacesAt speed least, s_PacesAt speed least, pacesAt_len speed least, fun _ _ h => pacesAt_ok h, seven_bd, fun h _ h1 h2 => found_iff h h1 h2⟩
  go_wp2_with fail
  refine (PI _).mono ?_
  rintro _ w9 ⟨A1, c1, rfl, own1, hb9⟩
  have G9 : Gw W1 w9 := G8.trans hb9
  clear hb9 hc8
  have hc9 := G9.cells
  clear hc9
  go_wp2_with fail
  refine (PS _).mono ?_
  rintro _ w10 ⟨A2, c2, rfl, own2, hb10⟩
  have G10 : Gw W1 w10 := G9.trans hb10
  have rd1 := own_rd (own_gw own1 hb10)
  have rd2 := own_rd own2
  clear hb10 own1 own2 PI PS G5 G6 G7 G8 G9
  dsimp only
  repeat (first | (go_at_K; go_step; exact tail16 GW hs0 hs1 e0 e1 e2 e3 F1 F2 F3 F4 F5 F6 F7 F8 S3 hlr ht3 hl3 rd1 rd2 G10) | go_step)


set_option maxRecDepth 100000 in
theorem lifted (os : Os) (started : os.Started) (H : Type) (enc : TypeId × Value → H) :
    ReturnsInHanded {} Try.checked os 3 .any (Rows.fnPacesSpec.pre6 enc Try.prog Try.f3 Rows.fnPacesRow.domain false) (Rows.fnPacesSpec.post enc Try.prog Try.f3 false true false false) := by
  refine returnsInHanded_of_change (C := Try.checked) own started (by kernel_rfl) Try.func3
    (ChangeSpec.witness6 (enc := enc) (C := Try.checked) false ⟨#[], #[.slice none 0 0, .slice none 0 0], []⟩ 8 (by kernel_rfl) (by kernel_rfl) (by kernel_rfl) (by kernel_rfl)) ?_
  intro W base args ds gs before hval0 hW hcnd _
  have hval : ∀ (j : Nat) t v, Try.f3.params[j]? = some t → args[j]? = some v → Value.okWide Try.prog W .any base t v := hval0
  have hW' := hW
  have hlt0 : ∀ p ∈ before, p.block < W.heap.size := fun p hp => hW.lt p hp
  obtain ⟨p, q, hA0, hV, rfl, hfz, hnd⟩ := hW
  have hlt : ∀ x ∈ p, x.block < W.heap.size := fun x hx => hlt0 x (List.mem_append_left _ hx)
  have hA : DataW.TrodAll enc Try.prog W 0 (fun _ => true) true Try.f3.params.toList args.toList ds p := hA0
  rw [Try.params3] at hA hval
  obtain ⟨v0, vs0, d0, ds0, p0, q0, hargs, rfl, rfl, h0, r0⟩ := trodAll_cons hA
  obtain ⟨v1, vs1, d1, ds1, p1, q1, rfl, rfl, rfl, h1, r1⟩ := trodAll_cons r0
  obtain ⟨rfl, rfl, rfl⟩ := trodAll_nil r1
  obtain rfl : args = #[v0, v1] := by cases args; simp_all
  obtain ⟨rfl, rfl⟩ := trodVars_none hV
  obtain ⟨A_code, code, c_code, rfl, hlc_code, hmc_code, rd_code, ok_code⟩ := open_rows (α := UInt8) (n := 6) Try.underlying22 (by kernel_rfl) (by kernel_rfl) (hval 0 22 v0 rfl rfl) h0 (fun x hx => hlt x (by simp [hx]))
  have hm_code : code.length ≤ 9223372036854775807 := by have := Nat.le_trans hlc_code hmc_code; unfold maxLen at this; omega
  obtain ⟨A_more, more, c_more, rfl, hlc_more, hmc_more, rd_more, ok_more⟩ := open_rows (α := UInt8) (n := 6) Try.underlying22 (by kernel_rfl) (by kernel_rfl) (hval 1 22 v1 rfl rfl) h1 (fun x hx => hlt x (by simp [hx]))
  have hm_more : more.length ≤ 9223372036854775807 := by have := Nat.le_trans hlc_more hmc_more; unfold maxLen at this; omega
  refine (walk W A_code code c_code hm_code rd_code A_more more c_more hm_more rd_more).mono fun e W' ⟨he, hg⟩ => ?_
  subst he
  exact ⟨_, rfl, post_law (by kernel_rfl) (by rw [Try.params3]; exact plainTypes (by kernel_rfl)) rfl Try.underlying4 rfl ⟨rfl, rfl, rfl⟩ hW' hg⟩

theorem over : Rows.fnPacesRow.holds Try.pinned (OpenSpec.ofChange Rows.fnPacesSpec) :=
  OpenClaim.holds_of_wide 3 Try.f3 rfl rfl rfl rfl rfl rfl rfl ⟨rfl, rfl, rfl, rfl, rfl⟩ rfl rfl rfl rfl rfl (by kernel_rfl) Try.func3 (by kernel_rfl)
    (of_decide_eq_true (by kernel_rfl)) (by unfold Func.isWrapper; first | (rw [if_pos (by decide +kernel)]; kernel_rfl) | (rw [if_neg (by decide +kernel)]; exact ⟨rfl, rfl⟩))
    (fun os started H enc _ => lifted os started H enc)

/-- The statement. -/
theorem proved : Rows.FnPacesSaid :=
  over
#print axioms proved
end Go.Proofs.Ytehkpdepomgapaa.lawFnPaces
