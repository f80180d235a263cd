/-
  The law FnBalance answers true at every input, and its arguments read afterwards as they read before.
-/
import Derived.Test.YtopaekijhkfhpaaRows
import Derived.Test.YtopaekijhkfhpaaFbC
import Derived.Test.YtopaekijhkfhpaaLaw
import Derived.Test.YtopaekijhkfhpaaTell
namespace Go.Proofs.Ytopaekijhkfhpaa.lawFnBalance
open Go.ChangeShapes Go.WideShapes Go.ChangeAt Go.RowKit
set_option linter.unusedVariables false

theorem own : ownKnob Try.prog.godebug = none := by kernel_rfl

-- params: rows:code:UInt8 rows:more:UInt8
-- import: FbC
-- import: Law
-- import: Tell
set_option maxHeartbeats 8000000 in
set_option maxRecDepth 100000 in
theorem walk (w : World) (A_code : Option Addr) (code : List UInt8) (c_code : Nat) (hm_code : code.length ≤ 9223372036854775807) (rd_code : Rd w A_code code) (A_more : Option Addr) (more : List UInt8) (c_more : Nat) (hm_more : more.length ≤ 9223372036854775807) (rd_more : Rd w A_more more) :
    Calls Try.prog 5 #[.slice A_code code.length c_code, .slice A_more more.length c_more] w fun e w' => e = .returned (.bool true) ∧ Gw w w' := by
  go_enter Try.func5, Try.ntmps5
  go_wp2_with fail
  refine (l_big _ _ _ _ _ _ _ hm_code hm_more).mono ?_
  rintro _ w1 (⟨hp, rfl, hb⟩ | ⟨hp, rfl, hb⟩)
  · go_wp2_with fail
    go_ret
    exact ⟨rfl, hb⟩
  clear hp
  go_wp2_with fail
  refine (d_LoudShare _ _ _ _ hm_code (rd_code.gw hb)).mono ?_
  rintro _ w2 ⟨l, D, cl, p, rfl, hp1, hB, hll, own, hb2⟩
  have G2 : Gw w w2 := hb.trans hb2
  have rdl := own_rd (α := Sec) own
  have hcap := own_cap2 own
  have hl : l.length ≤ 1048576 := by omega
  have hzl := hB.size
  clear hb hb2 own rd_code hll
  obtain ⟨a, b, ok, AI, AS, F⟩ : ∃ (a b : Int) (o : Bool), (∀ W A c, Rd W A l → l.length ≤ c → Calls Try.prog 20 #[.slice A l.length c, .int .i64 p] W fun e w' => e = .returned (.tuple #[.int .i64 a, .int .i64 b, .bool o]) ∧ Gw W w') ∧
      (∀ W A c, Rd W A l → l.length ≤ c → Calls Try.prog 21 #[.slice A l.length c, .int .i64 p] W fun e w' => e = .returned (.tuple #[.int .i64 a, .int .i64 b, .bool o]) ∧ Gw W w') ∧ Hid (o = true → shareF l p = (a, b, true)) :=
    ⟨(shareF l p).1, (shareF l p).2.1, (shareF l p).2.2, fun W A c h hc => i_LoudShare A c l p W hl hzl h hc, fun W A c h hc => s_LoudShare A c l p W hl hzl h hc, fun h => Prod.ext rfl (Prod.ext rfl h)⟩
  go_wp2_with fail
  refine (AI _ _ _ rdl hcap).mono ?_
  rintro _ w3 ⟨rfl, hb3⟩
  have G3 : Gw w w3 := G2.trans hb3
  have rdl3 := rdl.gw hb3
  go_wp2_with fail
  refine (AS _ _ _ rdl3 hcap).mono ?_
  rintro _ w4 ⟨rfl, hb4⟩
  have G4 : Gw w w4 := G3.trans hb4
  have rdl4 := rdl3.gw hb4
  clear AI AS G3 hb3 hb4 rdl3 rdl G2
  cases ok
  all_goals dsimp only
  · repeat (first | (go_at_K; go_step; exact tail7 hm_more (rd_more.gw G4) G4) | go_step)
  · obtain ⟨hS, P, x, rfl, hx, ha, hb, hab⟩ := share_facts (F.out rfl)
    obtain ⟨bk, y, hbst, hy, hbig⟩ := loudest_facts hS
    have hlb := hbig x (mem_of_get hx)
    have hPl := (List.getElem?_eq_some_iff.1 hx).1
    have hBl := (List.getElem?_eq_some_iff.1 hy).1
    have HS := Lib.hid hS
    have Hx := Lib.hid hx
    have Hy := Lib.hid hy
    have Hab := Lib.hid hab
    have T1 := fun W A c h hc => i_LoudestSection A c l W hl hzl h hc
    have T2 := fun W A c h hc => s_LoudestSection A c l W hl hzl h hc
    rw [hbst] at T1 T2
    clear F hS hx hy hab hbst hbig
    go_wp2_with fail
    go_loopw [13, 89] (fun s i wr => ∃ (k : Nat) (v : Int), i = .int .i64 k ∧ s = .int .i64 v ∧ k ≤ l.length ∧ 0 ≤ v ∧ v ≤ 6000 * k ∧ Hid (v = loudSum (l.take k)) ∧ Gw w4 wr) (fun _ i _ => l.length - (intOf i).toNat)
    case atStart => exact ⟨0, 0, by go_num, by go_num, Nat.zero_le _, by omega, by omega, by simp [Hid, loudSum], Gw.refl _⟩
    case round =>
      obtain ⟨k, v, rfl, rfl, hk, hv0, hv1, hv, hg⟩ := hrel
      by_cases hlt : k < l.length
      · obtain ⟨z, hz⟩ := get_of_lt hlt
        obtain ⟨z1, z2, z3⟩ := z
        have hzp := HS.out.1 _ (mem_of_get hz)
        have hm : 0 ≤ z2 * z3 ∧ z2 * z3 ≤ 6000 := loud_bd hzp
        obtain ⟨b', off, rfl, hb', c0, c1, c2⟩ := (rdl4.gw hg).getS hz
        dsimp only at c0 c1 c2
        have hvn : Hid (v + z2 * z3 = loudSum (l.take (k + 1))) := by unfold Hid; rw [take_succ_of hz, loudSum_snoc, hv.out]; rfl
        have h10 := HS.out.2.2.1
        have w1 : IntKind.i64.wrap (z2 * z3) = z2 * z3 := IntWalk.i64_in _ (by omega)
        have w2 : IntKind.i64.wrap (v + z2 * z3) = v + z2 * z3 := IntWalk.i64_in _ (by omega)
        clear hz hzp
        go_wp2_with fail
        go_roundw
        case rel => exact ⟨k + 1, v + z2 * z3, by go_num, by go_num, by omega, by omega, by omega, hvn, by (repeat (first | with_reducible exact Gw.refl _ | with_reducible assumption | ((with_reducible refine Gw.set ?_ ?_ _); rotate_left; (focus (first | (simp; done) | (simp; omega) | omega))) | with_reducible refine Gw.alloc ?_ _ | with_reducible refine Gw.drew ?_ | with_reducible refine Gw.drewN ?_ _ | (refine Gw.trans ?_ (by with_reducible assumption))))⟩
        case measure => simp [intOf]; omega
      · have hfin : Hid (v = loudSum l) := by unfold Hid; rw [hv.out, List.take_of_length_le (by omega)]
        go_wp2_with fail
        refine (T1 _ _ _ (rdl4.gw hg) hcap).mono ?_
        rintro _ w6 ⟨rfl, hb6⟩
        have hg6 : Gw w4 w6 := hg.trans hb6
        dsimp only
        go_wp2_with fail
        refine (T2 _ _ _ (rdl4.gw hg6) hcap).mono ?_
        rintro _ w7 ⟨rfl, hb7⟩
        have hg7 : Gw w4 w7 := hg6.trans hb7
        dsimp only
        have h10 := HS.out.2.2.1
        obtain ⟨x1, x2, x3⟩ := x
        obtain ⟨y1, y2, y3⟩ := y
        have hxm : 0 ≤ x2 * x3 ∧ x2 * x3 ≤ 6000 := loud_bd (HS.out.1 _ (mem_of_get Hx.out))
        have hym : 0 ≤ y2 * y3 ∧ y2 * y3 ≤ 6000 := loud_bd (HS.out.1 _ (mem_of_get Hy.out))
        have hlb' : x2 * x3 ≤ y2 * y3 := hlb
        have habv : a * v = x2 * x3 * b := by rw [hfin.out]; exact Hab.out
        obtain ⟨b', off, rfl, hb', c0, c1, c2⟩ := (rdl4.gw hg7).getS Hx.out
        obtain ⟨b'', off', he, hb'', d0, d1, d2⟩ := (rdl4.gw hg7).getS Hy.out
        simp only [Option.some.injEq, Addr.mk.injEq, and_true] at he
        obtain ⟨rfl, rfl⟩ := he
        dsimp only at c0 c1 c2 d0 d1 d2
        have hm1 : 0 ≤ x2 * x3 * b ∧ x2 * x3 * b ≤ 6000 * 60000 := ⟨Int.mul_nonneg hxm.1 (by omega), Int.mul_le_mul hxm.2 hb.2 (by omega) (by omega)⟩
        have w1 : IntKind.i64.wrap (x2 * x3) = x2 * x3 := IntWalk.i64_in _ (by omega)
        have w2 : IntKind.i64.wrap (y2 * y3) = y2 * y3 := IntWalk.i64_in _ (by omega)
        have w3 : IntKind.i64.wrap (x2 * x3 * b) = x2 * x3 * b := IntWalk.i64_in _ (by omega)
        have w4' : IntKind.i64.wrap (a * v) = a * v := IntWalk.i64_in _ (by omega)
        have q1 : decide (b < 1) = false := by simp; omega
        have q2 : (a * v == x2 * x3 * b) = true := by simp [habv]
        have q2' : (a * v != x2 * x3 * b) = false := by simp [habv]
        have q3 : decide (y2 * y3 < x2 * x3) = false := by simp; omega
        have q4 : decide (y2 * y3 ≤ x2 * x3 - 1) = false := by simp; omega
        have Habv := Lib.hid habv
        clear habv hb6 hb7
        go_wp2_with fail
        ((with_reducible refine wp_region_gw (by kernel_rfl) (by kernel_rfl) ?_); have hcq := @GwOf.cell; (repeat (go_big_quiet_step (fail))); refine wpQuiet_nil ?_; clear hcq; rintro w' ⟨⟨w', hb⟩, rfl⟩; (try dsimp only); have hc := hb.cells; have hf := hb.frozens; have hz := hb.size; (try simp at hz); (try have hz0 : w.heap.size < w'.heap.size := (by omega)); (try have hz1 : w.heap.size + 1 < w'.heap.size := (by omega)); (try have hz2 : w.heap.size + 2 < w'.heap.size := (by omega)); (try have hz3 : w.heap.size + 3 < w'.heap.size := (by omega)); (try have hz4 : w.heap.size + 4 < w'.heap.size := (by omega)); (try have hz5 : w.heap.size + 5 < w'.heap.size := (by omega)))
        have G9 : Gw w w' := G4.trans (hg7.trans hb)
        clear hc hf hz
        repeat (first | (go_at_K; go_step; exact tail7 hm_more (rd_more.gw G9) G9) | go_step)


set_option maxRecDepth 100000 in
theorem lifted (os : Os) (started : os.Started) (H : Type) (enc : TypeId × Value → H) :
    ReturnsInHanded {} Try.checked os 5 .any (Rows.fnBalanceSpec.pre6 enc Try.prog Try.f5 Rows.fnBalanceRow.domain false) (Rows.fnBalanceSpec.post enc Try.prog Try.f5 false true false false) := by
  refine returnsInHanded_of_change (C := Try.checked) own started (by kernel_rfl) Try.func5
    (ChangeSpec.witness6 (enc := enc) (C := Try.checked) false ⟨#[], #[.slice none 0 0, .slice none 0 0], []⟩ 8 (by kernel_rfl) (by kernel_rfl) (by kernel_rfl) (by kernel_rfl)) ?_
  intro W base args ds gs before hval0 hW hcnd _
  have hval : ∀ (j : Nat) t v, Try.f5.params[j]? = some t → args[j]? = some v → Value.okWide Try.prog W .any base t v := hval0
  have hW' := hW
  have hlt0 : ∀ p ∈ before, p.block < W.heap.size := fun p hp => hW.lt p hp
  obtain ⟨p, q, hA0, hV, rfl, hfz, hnd⟩ := hW
  have hlt : ∀ x ∈ p, x.block < W.heap.size := fun x hx => hlt0 x (List.mem_append_left _ hx)
  have hA : DataW.TrodAll enc Try.prog W 0 (fun _ => true) true Try.f5.params.toList args.toList ds p := hA0
  rw [Try.params5] at hA hval
  obtain ⟨v0, vs0, d0, ds0, p0, q0, hargs, rfl, rfl, h0, r0⟩ := trodAll_cons hA
  obtain ⟨v1, vs1, d1, ds1, p1, q1, rfl, rfl, rfl, h1, r1⟩ := trodAll_cons r0
  obtain ⟨rfl, rfl, rfl⟩ := trodAll_nil r1
  obtain rfl : args = #[v0, v1] := by cases args; simp_all
  obtain ⟨rfl, rfl⟩ := trodVars_none hV
  obtain ⟨A_code, code, c_code, rfl, hlc_code, hmc_code, rd_code, ok_code⟩ := open_rows (α := UInt8) (n := 6) Try.underlying37 (by kernel_rfl) (by kernel_rfl) (hval 0 37 v0 rfl rfl) h0 (fun x hx => hlt x (by simp [hx]))
  have hm_code : code.length ≤ 9223372036854775807 := by have := Nat.le_trans hlc_code hmc_code; unfold maxLen at this; omega
  obtain ⟨A_more, more, c_more, rfl, hlc_more, hmc_more, rd_more, ok_more⟩ := open_rows (α := UInt8) (n := 6) Try.underlying37 (by kernel_rfl) (by kernel_rfl) (hval 1 37 v1 rfl rfl) h1 (fun x hx => hlt x (by simp [hx]))
  have hm_more : more.length ≤ 9223372036854775807 := by have := Nat.le_trans hlc_more hmc_more; unfold maxLen at this; omega
  refine (walk W A_code code c_code hm_code rd_code A_more more c_more hm_more rd_more).mono fun e W' ⟨he, hg⟩ => ?_
  subst he
  exact ⟨_, rfl, post_law (by kernel_rfl) (by rw [Try.params5]; exact plainTypes (by kernel_rfl)) rfl Try.underlying4 rfl ⟨rfl, rfl, rfl⟩ hW' hg⟩

theorem over : Rows.fnBalanceRow.holds Try.pinned (OpenSpec.ofChange Rows.fnBalanceSpec) :=
  OpenClaim.holds_of_wide 5 Try.f5 rfl rfl rfl rfl rfl rfl rfl ⟨rfl, rfl, rfl, rfl, rfl⟩ rfl rfl rfl rfl rfl (by kernel_rfl) Try.func5 (by kernel_rfl)
    (of_decide_eq_true (by kernel_rfl)) (by unfold Func.isWrapper; first | (rw [if_pos (by decide +kernel)]; kernel_rfl) | (rw [if_neg (by decide +kernel)]; exact ⟨rfl, rfl⟩))
    (fun os started H enc _ => lifted os started H enc)

/-- The statement. -/
theorem proved : Rows.FnBalanceSaid :=
  over
#print axioms proved
end Go.Proofs.Ytopaekijhkfhpaa.lawFnBalance
