/-
  The law FnExactCountsAt answers true at every input, and its arguments read afterwards as they read before.
-/
import Derived.Test.YtcplnmanockhoaaRows
import Derived.Test.YtcplnmanockhoaaCount
namespace Go.Proofs.Ytcplnmanockhoaa.lawFnExactCountsAt
open Go.ChangeShapes Go.WideShapes Go.ChangeAt Go.RowKit
set_option linter.unusedVariables false

theorem own : ownKnob Try.prog.godebug = none := by kernel_rfl

-- params: agg:a,b agg:c,d agg:s,t int:l
-- import: Count
theorem walk (a : Int) (wf_a : (Lit.int .i64 a).wf = true) (b : Int) (wf_b : (Lit.int .i64 b).wf = true) (c : Int) (wf_c : (Lit.int .i64 c).wf = true) (d : Int) (wf_d : (Lit.int .i64 d).wf = true) (s : Int) (wf_s : (Lit.int .i64 s).wf = true) (t : Int) (wf_t : (Lit.int .i64 t).wf = true) (l : Int) (wf_l : (Lit.int .i64 l).wf = true) (w : World) :
    Calls Try.prog 8 #[.agg #[.int .i64 a, .int .i64 b], .agg #[.int .i64 c, .int .i64 d], .agg #[.int .i64 s, .int .i64 t], .int .i64 l] w fun e w' => e = .returned (.bool true) ∧ Gw w w' := by
  go_enter Try.func8, Try.ntmps8
  go_wp2_with (first | (go_at_call 27; refine (l_toSpot _ _ _).mono ?_; rintro e w' ⟨rfl, hb⟩; have hc := hb.cells; have hf := hb.frozens; have hz := hb.size; (try simp at hz); (try have hz0 : w.heap.size < w'.heap.size := (by omega)); (try have hz1 : w.heap.size + 1 < w'.heap.size := (by omega)); (try have hz2 : w.heap.size + 2 < w'.heap.size := (by omega)); (try have hz3 : w.heap.size + 3 < w'.heap.size := (by omega)); (try have hz4 : w.heap.size + 4 < w'.heap.size := (by omega)); (try have hz5 : w.heap.size + 5 < w'.heap.size := (by omega))) | (go_at_call 16; refine (l_toPace _ _ _).mono ?_; rintro e w' ⟨rfl, hb⟩; have hc := hb.cells; have hf := hb.frozens; have hz := hb.size; (try simp at hz); (try have hz0 : w.heap.size < w'.heap.size := (by omega)); (try have hz1 : w.heap.size + 1 < w'.heap.size := (by omega)); (try have hz2 : w.heap.size + 2 < w'.heap.size := (by omega)); (try have hz3 : w.heap.size + 3 < w'.heap.size := (by omega)); (try have hz4 : w.heap.size + 4 < w'.heap.size := (by omega)); (try have hz5 : w.heap.size + 5 < w'.heap.size := (by omega))) | (go_at_call 26; refine (s_CountsAt _ _ _ _ _ _ _ _).mono ?_; rintro e w' ⟨rfl, hb⟩; have hc := hb.cells; have hf := hb.frozens; have hz := hb.size; (try simp at hz); (try have hz0 : w.heap.size < w'.heap.size := (by omega)); (try have hz1 : w.heap.size + 1 < w'.heap.size := (by omega)); (try have hz2 : w.heap.size + 2 < w'.heap.size := (by omega)); (try have hz3 : w.heap.size + 3 < w'.heap.size := (by omega)); (try have hz4 : w.heap.size + 4 < w'.heap.size := (by omega)); (try have hz5 : w.heap.size + 5 < w'.heap.size := (by omega))) | (go_at_call 28; refine (i_CountsAt _ _ _ _ _ _ _ _).mono ?_; rintro e w' ⟨rfl, hb⟩; have hc := hb.cells; have hf := hb.frozens; have hz := hb.size; (try simp at hz); (try have hz0 : w.heap.size < w'.heap.size := (by omega)); (try have hz1 : w.heap.size + 1 < w'.heap.size := (by omega)); (try have hz2 : w.heap.size + 2 < w'.heap.size := (by omega)); (try have hz3 : w.heap.size + 3 < w'.heap.size := (by omega)); (try have hz4 : w.heap.size + 4 < w'.heap.size := (by omega)); (try have hz5 : w.heap.size + 5 < w'.heap.size := (by omega))) | ((with_reducible refine wp_region_gw (by kernel_rfl) (by kernel_rfl) ?_); have hcq := @GwOf.cell; (repeat (go_big_quiet_step (first | (go_at_call 27; exact GwOf.call (l_toSpot _ _ _)) | (go_at_call 16; exact GwOf.call (l_toPace _ _ _)) | (go_at_call 26; exact GwOf.call (s_CountsAt _ _ _ _ _ _ _ _)) | (go_at_call 28; exact GwOf.call (i_CountsAt _ _ _ _ _ _ _ _))))); refine wpQuiet_nil ?_; clear hcq; rintro w' ⟨⟨w', hb⟩, rfl⟩; (try dsimp only); have hc := hb.cells; have hf := hb.frozens; have hz := hb.size; (try simp at hz); (try have hz0 : w.heap.size < w'.heap.size := (by omega)); (try have hz1 : w.heap.size + 1 < w'.heap.size := (by omega)); (try have hz2 : w.heap.size + 2 < w'.heap.size := (by omega)); (try have hz3 : w.heap.size + 3 < w'.heap.size := (by omega)); (try have hz4 : w.heap.size + 4 < w'.heap.size := (by omega)); (try have hz5 : w.heap.size + 5 < w'.heap.size := (by omega))))
  all_goals first | (exfalso; contradiction) | skip
  all_goals
    go_ret
    exact ⟨rfl, by (repeat (first | exact Gw.refl _ | assumption | exact Gw.alloc (Gw.refl _) _ | refine Gw.alloc ?_ _ | refine Gw.drew ?_ | refine Gw.drewN ?_ _ | refine Gw.trans ?_ (by assumption) | refine Gw.set ?_ (by first | (simp; done) | (simp; omega) | omega) _))⟩


set_option maxRecDepth 100000 in
theorem lifted (os : Os) (started : os.Started) (H : Type) (enc : TypeId × Value → H) :
    ReturnsInHanded {} Try.checked os 8 .any (Rows.fnExactCountsAtSpec.pre6 enc Try.prog Try.f8 Rows.fnExactCountsAtRow.domain false) (Rows.fnExactCountsAtSpec.post enc Try.prog Try.f8 false true false false) := by
  refine returnsInHanded_of_change (C := Try.checked) own started (by kernel_rfl) Try.func8
    (ChangeSpec.witness6 (enc := enc) (C := Try.checked) false ⟨#[], #[.agg #[.int .i64 0, .int .i64 0], .agg #[.int .i64 0, .int .i64 0], .agg #[.int .i64 0, .int .i64 0], .int .i64 0], []⟩ 8 (by kernel_rfl) (by kernel_rfl) (by kernel_rfl) (by kernel_rfl)) ?_
  intro W base args ds gs before hval0 hW hcnd _
  have hval : ∀ (j : Nat) t v, Try.f8.params[j]? = some t → args[j]? = some v → Value.okWide Try.prog W .any base t v := hval0
  have hW' := hW
  have hlt0 : ∀ p ∈ before, p.block < W.heap.size := fun p hp => hW.lt p hp
  obtain ⟨p, q, hA0, hV, rfl, hfz, hnd⟩ := hW
  have hlt : ∀ x ∈ p, x.block < W.heap.size := fun x hx => hlt0 x (List.mem_append_left _ hx)
  have hA : DataW.TrodAll enc Try.prog W 0 (fun _ => true) true Try.f8.params.toList args.toList ds p := hA0
  rw [Try.params8] at hA hval
  obtain ⟨v0, vs0, d0, ds0, p0, q0, hargs, rfl, rfl, h0, r0⟩ := trodAll_cons hA
  obtain ⟨v1, vs1, d1, ds1, p1, q1, rfl, rfl, rfl, h1, r1⟩ := trodAll_cons r0
  obtain ⟨v2, vs2, d2, ds2, p2, q2, rfl, rfl, rfl, h2, r2⟩ := trodAll_cons r1
  obtain ⟨v3, vs3, d3, ds3, p3, q3, rfl, rfl, rfl, h3, r3⟩ := trodAll_cons r2
  obtain ⟨rfl, rfl, rfl⟩ := trodAll_nil r3
  obtain rfl : args = #[v0, v1, v2, v3] := by cases args; simp_all
  obtain ⟨rfl, rfl⟩ := trodVars_none hV
  obtain ⟨cs0_0, rfl, ft0_0⟩ := open_flat (n := 6) (ks := [.int .i64, .int .i64]) Try.underlying36 (by kernel_rfl) (hval 0 36 v0 rfl rfl) h0
  obtain ⟨_, cs0_1, rfl, ⟨a, rfl, wf_a⟩, ft0_1⟩ := ft0_0.cons
  obtain ⟨_, cs0_2, rfl, ⟨b, rfl, wf_b⟩, ft0_2⟩ := ft0_1.cons
  obtain rfl := ft0_2.nil
  obtain ⟨cs1_0, rfl, ft1_0⟩ := open_flat (n := 6) (ks := [.int .i64, .int .i64]) Try.underlying36 (by kernel_rfl) (hval 1 36 v1 rfl rfl) h1
  obtain ⟨_, cs1_1, rfl, ⟨c, rfl, wf_c⟩, ft1_1⟩ := ft1_0.cons
  obtain ⟨_, cs1_2, rfl, ⟨d, rfl, wf_d⟩, ft1_2⟩ := ft1_1.cons
  obtain rfl := ft1_2.nil
  obtain ⟨cs2_0, rfl, ft2_0⟩ := open_flat (n := 6) (ks := [.int .i64, .int .i64]) Try.underlying23 (by kernel_rfl) (hval 2 23 v2 rfl rfl) h2
  obtain ⟨_, cs2_1, rfl, ⟨s, rfl, wf_s⟩, ft2_1⟩ := ft2_0.cons
  obtain ⟨_, cs2_2, rfl, ⟨t, rfl, wf_t⟩, ft2_2⟩ := ft2_1.cons
  obtain rfl := ft2_2.nil
  obtain ⟨l, rfl, rfl, rfl, wf_l⟩ := open_int Try.underlying3 (hval 3 3 v3 rfl rfl) h3
  refine (walk a wf_a b wf_b c wf_c d wf_d s wf_s t wf_t l wf_l W).mono fun e W' ⟨he, hg⟩ => ?_
  subst he
  exact ⟨_, rfl, post_law (by kernel_rfl) (by rw [Try.params8]; exact plainTypes (by kernel_rfl)) rfl Try.underlying4 rfl ⟨rfl, rfl, rfl⟩ hW' hg⟩

theorem over : Rows.fnExactCountsAtRow.holds Try.pinned (OpenSpec.ofChange Rows.fnExactCountsAtSpec) :=
  OpenClaim.holds_of_wide 8 Try.f8 rfl rfl rfl rfl rfl rfl rfl ⟨rfl, rfl, rfl, rfl, rfl⟩ rfl rfl rfl rfl rfl (by kernel_rfl) Try.func8 (by kernel_rfl)
    (of_decide_eq_true (by kernel_rfl)) (by unfold Func.isWrapper; first | (rw [if_pos (by decide +kernel)]; kernel_rfl) | (rw [if_neg (by decide +kernel)]; exact ⟨rfl, rfl⟩))
    (fun os started H enc _ => lifted os started H enc)

/-- The statement. -/
theorem proved : Rows.FnExactCountsAtSaid :=
  over
#print axioms proved
end Go.Proofs.Ytcplnmanockhoaa.lawFnExactCountsAt
