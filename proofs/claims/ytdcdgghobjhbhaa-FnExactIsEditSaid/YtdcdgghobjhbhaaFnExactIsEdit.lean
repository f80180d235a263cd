/-
  The law FnExactIsEdit answers true at every input, and its arguments read afterwards as they read before.
-/
import Derived.Test.YtdcdgghobjhbhaaRows
import Derived.Test.YtdcdgghobjhbhaaEdit
import Derived.Test.YtdcdgghobjhbhaaTyEdit
namespace Go.Proofs.Ytdcdgghobjhbhaa.lawFnExactIsEdit
open Go.ChangeShapes Go.WideShapes Go.ChangeAt Go.RowKit
set_option linter.unusedVariables false

theorem own : ownKnob Try.prog.godebug = none := by kernel_rfl

-- params: agg:a,b,c,d,m,n
-- import: Edit
-- import: TyEdit
theorem walk (a : Int) (wf_a : (Lit.int .i64 a).wf = true) (b : Int) (wf_b : (Lit.int .i64 b).wf = true) (c : Int) (wf_c : (Lit.int .i64 c).wf = true) (d : Int) (wf_d : (Lit.int .i64 d).wf = true) (m : Int) (wf_m : (Lit.int .i64 m).wf = true) (n : Int) (wf_n : (Lit.int .i64 n).wf = true) (w : World) :
    Calls Try.prog 3 #[.agg #[.int .i64 a, .int .i64 b, .int .i64 c, .int .i64 d, .int .i64 m, .int .i64 n]] w fun e w' => e = .returned (.bool true) ∧ Gw w w' := by
  go_enter Try.func3, Try.ntmps3
  go_wp2_with (first | (go_at_call 13; refine (l_toEdit _ _ _ _ _ _ _).mono ?_; rintro e w' ⟨rfl, hb⟩; have hc := hb.cells; have hf := hb.frozens; have hz := hb.size; (try simp at hz); (try have hz0 : w.heap.size < w'.heap.size := (by omega)); (try have hz1 : w.heap.size + 1 < w'.heap.size := (by omega)); (try have hz2 : w.heap.size + 2 < w'.heap.size := (by omega)); (try have hz3 : w.heap.size + 3 < w'.heap.size := (by omega)); (try have hz4 : w.heap.size + 4 < w'.heap.size := (by omega)); (try have hz5 : w.heap.size + 5 < w'.heap.size := (by omega))) | (go_at_call 12; refine (s_IsEdit _ _ _ _ _ _ _).mono ?_; rintro e w' (⟨hp, rfl, hb⟩ | ⟨hp, rfl, hb⟩) <;> (have hc := hb.cells; have hf := hb.frozens; have hz := hb.size; (try simp at hz); (try have hz0 : w.heap.size < w'.heap.size := (by omega)); (try have hz1 : w.heap.size + 1 < w'.heap.size := (by omega)); (try have hz2 : w.heap.size + 2 < w'.heap.size := (by omega)); (try have hz3 : w.heap.size + 3 < w'.heap.size := (by omega)); (try have hz4 : w.heap.size + 4 < w'.heap.size := (by omega)); (try have hz5 : w.heap.size + 5 < w'.heap.size := (by omega)))) | (go_at_call 14; refine (i_IsEdit _ _ _ _ _ _ _).mono ?_; rintro e w' (⟨hp, rfl, hb⟩ | ⟨hp, rfl, hb⟩) <;> (have hc := hb.cells; have hf := hb.frozens; have hz := hb.size; (try simp at hz); (try have hz0 : w.heap.size < w'.heap.size := (by omega)); (try have hz1 : w.heap.size + 1 < w'.heap.size := (by omega)); (try have hz2 : w.heap.size + 2 < w'.heap.size := (by omega)); (try have hz3 : w.heap.size + 3 < w'.heap.size := (by omega)); (try have hz4 : w.heap.size + 4 < w'.heap.size := (by omega)); (try have hz5 : w.heap.size + 5 < w'.heap.size := (by omega)))) | ((with_reducible refine wp_region_gw (by kernel_rfl) (by kernel_rfl) ?_); have hcq := @GwOf.cell; (repeat (go_big_quiet_step (first | (go_at_call 13; exact GwOf.call (l_toEdit _ _ _ _ _ _ _)) | (go_at_call 12; exact GwOf.callb (s_IsEdit _ _ _ _ _ _ _)) | (go_at_call 14; exact GwOf.callb (i_IsEdit _ _ _ _ _ _ _))))); refine wpQuiet_nil ?_; clear hcq; rintro w' ⟨⟨w', hb⟩, rfl⟩; (try dsimp only); have hc := hb.cells; have hf := hb.frozens; have hz := hb.size; (try simp at hz); (try have hz0 : w.heap.size < w'.heap.size := (by omega)); (try have hz1 : w.heap.size + 1 < w'.heap.size := (by omega)); (try have hz2 : w.heap.size + 2 < w'.heap.size := (by omega)); (try have hz3 : w.heap.size + 3 < w'.heap.size := (by omega)); (try have hz4 : w.heap.size + 4 < w'.heap.size := (by omega)); (try have hz5 : w.heap.size + 5 < w'.heap.size := (by omega))))
  all_goals first | (exfalso; contradiction) | skip
  all_goals
    go_ret
    exact ⟨rfl, by (repeat (first | with_reducible exact Gw.refl _ | with_reducible assumption | ((with_reducible refine Gw.set ?_ ?_ _); rotate_left; (focus (first | (simp; done) | (simp; omega) | omega))) | with_reducible refine Gw.alloc ?_ _ | with_reducible refine Gw.drew ?_ | with_reducible refine Gw.drewN ?_ _ | (refine Gw.trans ?_ (by with_reducible assumption))))⟩


set_option maxRecDepth 100000 in
theorem lifted (os : Os) (started : os.Started) (H : Type) (enc : TypeId × Value → H) :
    ReturnsInHanded {} Try.checked os 3 .any (Rows.fnExactIsEditSpec.pre6 enc Try.prog Try.f3 Rows.fnExactIsEditRow.domain false) (Rows.fnExactIsEditSpec.post enc Try.prog Try.f3 false true false false) := by
  refine returnsInHanded_of_change (C := Try.checked) own started (by kernel_rfl) Try.func3
    (ChangeSpec.witness6 (enc := enc) (C := Try.checked) false ⟨#[], #[.agg #[.int .i64 0, .int .i64 0, .int .i64 0, .int .i64 0, .int .i64 0, .int .i64 0]], []⟩ 8 (by kernel_rfl) (by kernel_rfl) (by kernel_rfl) (by kernel_rfl)) ?_
  intro W base args ds gs before hval0 hW hcnd _
  have hval : ∀ (j : Nat) t v, Try.f3.params[j]? = some t → args[j]? = some v → Value.okWide Try.prog W .any base t v := hval0
  have hW' := hW
  have hlt0 : ∀ p ∈ before, p.block < W.heap.size := fun p hp => hW.lt p hp
  obtain ⟨p, q, hA0, hV, rfl, hfz, hnd⟩ := hW
  have hlt : ∀ x ∈ p, x.block < W.heap.size := fun x hx => hlt0 x (List.mem_append_left _ hx)
  have hA : DataW.TrodAll enc Try.prog W 0 (fun _ => true) true Try.f3.params.toList args.toList ds p := hA0
  rw [Try.params3] at hA hval
  obtain ⟨v0, vs0, d0, ds0, p0, q0, hargs, rfl, rfl, h0, r0⟩ := trodAll_cons hA
  obtain ⟨rfl, rfl, rfl⟩ := trodAll_nil r0
  obtain rfl : args = #[v0] := by cases args; simp_all
  obtain ⟨rfl, rfl⟩ := trodVars_none hV
  obtain ⟨cs0_0, rfl, ft0_0⟩ := open_flat (n := 6) (ks := [.int .i64, .int .i64, .int .i64, .int .i64, .int .i64, .int .i64]) Try.underlying25 (by kernel_rfl) (hval 0 25 v0 rfl rfl) h0
  obtain ⟨_, cs0_1, rfl, ⟨a, rfl, wf_a⟩, ft0_1⟩ := ft0_0.cons
  obtain ⟨_, cs0_2, rfl, ⟨b, rfl, wf_b⟩, ft0_2⟩ := ft0_1.cons
  obtain ⟨_, cs0_3, rfl, ⟨c, rfl, wf_c⟩, ft0_3⟩ := ft0_2.cons
  obtain ⟨_, cs0_4, rfl, ⟨d, rfl, wf_d⟩, ft0_4⟩ := ft0_3.cons
  obtain ⟨_, cs0_5, rfl, ⟨m, rfl, wf_m⟩, ft0_5⟩ := ft0_4.cons
  obtain ⟨_, cs0_6, rfl, ⟨n, rfl, wf_n⟩, ft0_6⟩ := ft0_5.cons
  obtain rfl := ft0_6.nil
  refine (walk a wf_a b wf_b c wf_c d wf_d m wf_m n wf_n W).mono fun e W' ⟨he, hg⟩ => ?_
  subst he
  exact ⟨_, rfl, post_law (by kernel_rfl) (by rw [Try.params3]; exact plainTypes (by kernel_rfl)) rfl Try.underlying4 rfl ⟨rfl, rfl, rfl⟩ hW' hg⟩

theorem over : Rows.fnExactIsEditRow.holds Try.pinned (OpenSpec.ofChange Rows.fnExactIsEditSpec) :=
  OpenClaim.holds_of_wide 3 Try.f3 rfl rfl rfl rfl rfl rfl rfl ⟨rfl, rfl, rfl, rfl, rfl⟩ rfl rfl rfl rfl rfl (by kernel_rfl) Try.func3 (by kernel_rfl)
    (of_decide_eq_true (by kernel_rfl)) (by unfold Func.isWrapper; first | (rw [if_pos (by decide +kernel)]; kernel_rfl) | (rw [if_neg (by decide +kernel)]; exact ⟨rfl, rfl⟩))
    (fun os started H enc _ => lifted os started H enc)

/-- The statement. -/
theorem proved : Rows.FnExactIsEditSaid :=
  over
#print axioms proved
end Go.Proofs.Ytdcdgghobjhbhaa.lawFnExactIsEdit
