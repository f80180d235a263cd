/-
  The law FnEdits answers true at every input, and its arguments read afterwards as they read before.
-/
import Derived.Test.YtoofpajeogllhaaRows
import Derived.Test.YtoofpajeogllhaaFeQ
import Derived.Test.YtoofpajeogllhaaLaw
import Derived.Test.YtoofpajeogllhaaTell
namespace Go.Proofs.Ytoofpajeogllhaa.lawFnEdits
open Go.ChangeShapes Go.WideShapes Go.ChangeAt Go.RowKit
set_option linter.unusedVariables false

theorem own : ownKnob Try.prog.godebug = none := by kernel_rfl

-- params: rows:code:UInt8 rows:more:UInt8
-- import: FeQ
-- import: Law
-- import: Tell
set_option maxHeartbeats 8000000 in
set_option maxRecDepth 100000 in
theorem walk (w : World) (A_code : Option Addr) (code : List UInt8) (c_code : Nat) (hm_code : code.length ≤ 9223372036854775807) (rd_code : Rd w A_code code) (A_more : Option Addr) (more : List UInt8) (c_more : Nat) (hm_more : more.length ≤ 9223372036854775807) (rd_more : Rd w A_more more) :
    Calls Try.prog 3 #[.slice A_code code.length c_code, .slice A_more more.length c_more] w fun e w' => e = .returned (.bool true) ∧ Gw w w' := by
  go_enter Try.func3, Try.ntmps3
  go_wp2_with fail
  refine (l_big _ _ _ _ _ _ _ hm_code hm_more).mono ?_
  rintro _ w1 (⟨hp, rfl, hb⟩ | ⟨hp, rfl, hb⟩)
  · go_wp2_with fail
    go_ret
    exact ⟨rfl, hb⟩
  clear hp
  go_wp2_with fail
  refine (d_ApplyEdit _ _ _ _ hm_code (rd_code.gw hb)).mono ?_
  rintro _ w2 ⟨l, B, cl, ed, p0, b1, b2, a1, a2, rfl, hll, own, hb2⟩
  have G2 : Gw w (w2.alloc (.cells #[.int .i64 ed, .int .i64 p0, .int .i64 b1, .int .i64 b2, .int .i64 a1, .int .i64 a2] 28)) := (hb.trans hb2).alloc _
  have bx := BoxR.new w2 #[.int .i64 ed, .int .i64 p0, .int .i64 b1, .int .i64 b2, .int .i64 a1, .int .i64 a2] 28
  have rdl := (own_rd (α := Int × Int) own).gw ((Gw.refl w2).alloc (.cells #[.int .i64 ed, .int .i64 p0, .int .i64 b1, .int .i64 b2, .int .i64 a1, .int .i64 a2] 28))
  have hcap := own_cap2 own
  have hl : l.length ≤ 1048576 := by omega
  clear own hb hb2 rd_code hll
  obtain ⟨p, one, UI, US, hpl, F⟩ : ∃ (p : List (Int × Int)) (o : Bool), (∀ W A c, Rd W A l → l.length ≤ c → Calls Try.prog 6 #[.slice A l.length c, .agg #[.int .i64 ed, .int .i64 p0, .int .i64 b1, .int .i64 b2, .int .i64 a1, .int .i64 a2]] W fun e w' => ∃ A d, e = .returned (.tuple #[.slice A p.length d, .bool o]) ∧ w'.ownsRow W.heap.size 26 2 (.slice A p.length d) p.length (flat p) ∧ Gw W w') ∧
      (∀ W A c, Rd W A l → l.length ≤ c → Calls Try.prog 7 #[.slice A l.length c, .agg #[.int .i64 ed, .int .i64 p0, .int .i64 b1, .int .i64 b2, .int .i64 a1, .int .i64 a2]] W fun e w' => ∃ A d, e = .returned (.tuple #[.slice A p.length d, .bool o]) ∧ w'.ownsRow W.heap.size 26 2 (.slice A p.length d) p.length (flat p) ∧ Gw W w') ∧ p.length ≤ 1048576 ∧ Hid (o = true → applyF l ed p0 b1 b2 a1 a2 = (p, true)) :=
    ⟨(applyF l ed p0 b1 b2 a1 a2).1, (applyF l ed p0 b1 b2 a1 a2).2, fun W A c h1 h2 => i_ApplyEdit A c l ed p0 b1 b2 a1 a2 W hl h1 h2, fun W A c h1 h2 => s_ApplyEdit A c l ed p0 b1 b2 a1 a2 W hl h1 h2, applyF_len l ed p0 b1 b2 a1 a2, fun h => Prod.ext rfl h⟩
  have z0 := bx.cell 0 rfl
  have z1 := bx.cell 1 rfl
  have z2 := bx.cell 2 rfl
  have z3 := bx.cell 3 rfl
  have z4 := bx.cell 4 rfl
  have z5 := bx.cell 5 rfl
  go_wp2_with fail
  refine (UI _ _ _ rdl hcap).mono ?_
  rintro _ w3 ⟨A3, c3, rfl, own3, hb3⟩
  have G3 := G2.trans hb3
  have rdl := rdl.gw hb3
  have bx := bx.gw hb3
  clear z0 z1 z2 z3 z4 z5 UI
  have z0 := bx.cell 0 rfl
  have z1 := bx.cell 1 rfl
  have z2 := bx.cell 2 rfl
  have z3 := bx.cell 3 rfl
  have z4 := bx.cell 4 rfl
  have z5 := bx.cell 5 rfl
  dsimp only
  go_wp2_with fail
  refine (US _ _ _ rdl hcap).mono ?_
  rintro _ w4 ⟨A4, c4, rfl, own4, hb4⟩
  have G4 := G3.trans hb4
  have rda := (own_rd (α := Int × Int) own3).gw hb4
  have rdb := own_rd (α := Int × Int) own4
  have hc3 := own_cap2 own3
  have rdl := rdl.gw hb4
  have bx := bx.gw hb4
  clear z0 z1 z2 z3 z4 z5 US own3 own4 G2 G3 hb3 hb4
  dsimp only
  cases one
  all_goals
    go_wp2_with fail
    refine (l_pSameSpots _ _ _ _ _ _ hpl rda rdb).mono ?_
    rintro _ w5 ⟨rfl, hb5⟩
    have G5 := G4.trans hb5
    have rda5 := rda.gw hb5
    have rdl5 := rdl.gw hb5
    have bx5 := bx.gw hb5
    dsimp only
  · repeat (first | (go_at_K; go_step; exact fe7 hm_more (rd_more.gw G5) G5) | go_step)
  obtain ⟨f1, f2, f3⟩ := apply_facts (F.out (by trivial))
  have UU : ∀ W A c, Rd W A p → p.length ≤ c → Calls Try.prog 9 #[.slice A p.length c, .agg #[.int .i64 ed, .int .i64 p0, .int .i64 b1, .int .i64 b2, .int .i64 a1, .int .i64 a2]] W fun e w' => ∃ A d, e = .returned (.tuple #[.slice A l.length d, .bool true]) ∧ w'.ownsRow W.heap.size 26 2 (.slice A l.length d) l.length (flat l) ∧ Gw W w' := by
    intro W A c h1 h2
    have := i_UndoEdit A c p ed p0 b1 b2 a1 a2 W hpl h1 h2
    rw [f1] at this
    exact this
  have UU := Lib.hid UU
  have HC := Lib.hid f2
  have HE := Lib.hid f3
  have z0 := bx5.cell 0 rfl
  have z1 := bx5.cell 1 rfl
  have z2 := bx5.cell 2 rfl
  have z3 := bx5.cell 3 rfl
  have z4 := bx5.cell 4 rfl
  have z5 := bx5.cell 5 rfl
  clear F f1 f2 f3 G4 rda rdb rdl bx hb5
  go_wp2_with fail
  refine (UU.out _ _ _ rda5 hc3).mono ?_
  rintro _ w6 ⟨A6, c6, rfl, own6, hb6⟩
  have G6 := G5.trans hb6
  have rda := rda5.gw hb6
  have rdl := rdl5.gw hb6
  have rdu := own_rd (α := Int × Int) own6
  have bx := bx5.gw hb6
  clear z0 z1 z2 z3 z4 z5 UU own6 hb6 G5 rda5 rdl5 bx5
  dsimp only
  go_wp2_with fail
  refine (l_pSameSpots _ _ _ _ _ _ hl rdu rdl).mono ?_
  rintro _ w7 ⟨rfl, hb7⟩
  have G7 := G6.trans hb7
  have rda := rda.gw hb7
  have bx := bx.gw hb7
  clear rdu rdl hb7 G6
  dsimp only
  go_wp2_with fail
  refine (i_IsChart _ _ _ _ hpl rda hc3).mono ?_
  rintro _ w8 (⟨hp, rfl, hb8⟩ | ⟨hp, rfl, hb8⟩)
  case inr => exact absurd HC.out hp
  clear hp
  have G8 := G7.trans hb8
  have bx := bx.gw hb8
  have z0 := bx.cell 0 rfl
  have z1 := bx.cell 1 rfl
  have z2 := bx.cell 2 rfl
  have z3 := bx.cell 3 rfl
  have z4 := bx.cell 4 rfl
  have z5 := bx.cell 5 rfl
  clear rda hb8 G7
  go_wp2_with fail
  refine (i_IsEdit _ _ _ _ _ _ _).mono ?_
  rintro _ w9 (⟨hp, rfl, hb9⟩ | ⟨hp, rfl, hb9⟩)
  case inr => exact absurd HE.out hp
  have G9 := G8.trans hb9
  clear z0 z1 z2 z3 z4 z5 hp bx hb9 G8
  dsimp only
  repeat (first | (go_at_K; go_step; exact fe7 hm_more (rd_more.gw G9) G9) | go_step)


set_option maxRecDepth 100000 in
theorem lifted (os : Os) (started : os.Started) (H : Type) (enc : TypeId × Value → H) :
    ReturnsInHanded {} Try.checked os 3 .any (Rows.fnEditsSpec.pre6 enc Try.prog Try.f3 Rows.fnEditsRow.domain false) (Rows.fnEditsSpec.post enc Try.prog Try.f3 false true false false) := by
  refine returnsInHanded_of_change (C := Try.checked) own started (by kernel_rfl) Try.func3
    (ChangeSpec.witness6 (enc := enc) (C := Try.checked) false ⟨#[], #[.slice none 0 0, .slice none 0 0], []⟩ 8 (by kernel_rfl) (by kernel_rfl) (by kernel_rfl) (by kernel_rfl)) ?_
  intro W base args ds gs before hval0 hW hcnd _
  have hval : ∀ (j : Nat) t v, Try.f3.params[j]? = some t → args[j]? = some v → Value.okWide Try.prog W .any base t v := hval0
  have hW' := hW
  have hlt0 : ∀ p ∈ before, p.block < W.heap.size := fun p hp => hW.lt p hp
  obtain ⟨p, q, hA0, hV, rfl, hfz, hnd⟩ := hW
  have hlt : ∀ x ∈ p, x.block < W.heap.size := fun x hx => hlt0 x (List.mem_append_left _ hx)
  have hA : DataW.TrodAll enc Try.prog W 0 (fun _ => true) true Try.f3.params.toList args.toList ds p := hA0
  rw [Try.params3] at hA hval
  obtain ⟨v0, vs0, d0, ds0, p0, q0, hargs, rfl, rfl, h0, r0⟩ := trodAll_cons hA
  obtain ⟨v1, vs1, d1, ds1, p1, q1, rfl, rfl, rfl, h1, r1⟩ := trodAll_cons r0
  obtain ⟨rfl, rfl, rfl⟩ := trodAll_nil r1
  obtain rfl : args = #[v0, v1] := by cases args; simp_all
  obtain ⟨rfl, rfl⟩ := trodVars_none hV
  obtain ⟨A_code, code, c_code, rfl, hlc_code, hmc_code, rd_code, ok_code⟩ := open_rows (α := UInt8) (n := 6) Try.underlying22 (by kernel_rfl) (by kernel_rfl) (hval 0 22 v0 rfl rfl) h0 (fun x hx => hlt x (by simp [hx]))
  have hm_code : code.length ≤ 9223372036854775807 := by have := Nat.le_trans hlc_code hmc_code; unfold maxLen at this; omega
  obtain ⟨A_more, more, c_more, rfl, hlc_more, hmc_more, rd_more, ok_more⟩ := open_rows (α := UInt8) (n := 6) Try.underlying22 (by kernel_rfl) (by kernel_rfl) (hval 1 22 v1 rfl rfl) h1 (fun x hx => hlt x (by simp [hx]))
  have hm_more : more.length ≤ 9223372036854775807 := by have := Nat.le_trans hlc_more hmc_more; unfold maxLen at this; omega
  refine (walk W A_code code c_code hm_code rd_code A_more more c_more hm_more rd_more).mono fun e W' ⟨he, hg⟩ => ?_
  subst he
  exact ⟨_, rfl, post_law (by kernel_rfl) (by rw [Try.params3]; exact plainTypes (by kernel_rfl)) rfl Try.underlying4 rfl ⟨rfl, rfl, rfl⟩ hW' hg⟩

theorem over : Rows.fnEditsRow.holds Try.pinned (OpenSpec.ofChange Rows.fnEditsSpec) :=
  OpenClaim.holds_of_wide 3 Try.f3 rfl rfl rfl rfl rfl rfl rfl ⟨rfl, rfl, rfl, rfl, rfl⟩ rfl rfl rfl rfl rfl (by kernel_rfl) Try.func3 (by kernel_rfl)
    (of_decide_eq_true (by kernel_rfl)) (by unfold Func.isWrapper; first | (rw [if_pos (by decide +kernel)]; kernel_rfl) | (rw [if_neg (by decide +kernel)]; exact ⟨rfl, rfl⟩))
    (fun os started H enc _ => lifted os started H enc)

/-- The statement. -/
theorem proved : Rows.FnEditsSaid :=
  over
#print axioms proved
end Go.Proofs.Ytoofpajeogllhaa.lawFnEdits
