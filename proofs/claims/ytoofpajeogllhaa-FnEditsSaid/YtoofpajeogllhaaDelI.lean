/-
  slices.Delete of one element of a list of integers of the call's own.
-/
import Derived.Test.YtoofpajeogllhaaStep
import Derived.Test.YtoofpajeogllhaaTyInt
import Derived.Lib.SliceRun
import Derived.Deep.RegionLaw
namespace Go.Proofs.Ytoofpajeogllhaa
open Go.RowKit

theorem take_set_snoc {xs : List Value} {j : Nat} {y : Value} (hj : j < xs.length) : (xs.set j y).take (j + 1) = xs.take j ++ [y] := by
  rw [take_succ_of (x := y) (by rw [List.getElem?_set_self hj]), List.take_set, List.set_eq_of_length_le (by simp; omega)]
theorem drop_set_far {xs : List Value} {j m : Nat} {y : Value} (hj : j < m) : (xs.set j y).drop m = xs.drop m := by
  rw [List.drop_set]; simp; omega
/-- A store of many cells. -/
theorem own_setCells {base : Nat} {e : TypeId} {size n c g : Nat} : ∀ (ys : List Value) (j : Nat) {w : World} {xs : List Value}, w.ownsRow base e size (.slice (some ⟨g, 0, none⟩) n c) n xs → j + ys.length ≤ xs.length →
    (w.setCells g j ys).ownsRow base e size (.slice (some ⟨g, 0, none⟩) n c) n (xs.take j ++ ys ++ xs.drop (j + ys.length)) ∧ w.grownBy (w.setCells g j ys) (some g)
  | [], j, w, xs, h, _ => ⟨by simpa [World.setCells] using h, World.grownBy.refl w _⟩
  | y :: ys, j, w, xs, h, hl => by
    simp only [List.length_cons] at hl
    have h1 := World.ownsRow.stored h j y
    have h2 := own_setCells ys (j + 1) h1.1 (by rw [List.length_set]; omega)
    have e1 : (xs.set j y).take (j + 1) ++ ys ++ (xs.set j y).drop (j + 1 + ys.length) = xs.take j ++ (y :: ys) ++ xs.drop (j + (y :: ys).length) := by
      rw [take_set_snoc (by omega), drop_set_far (by omega), List.length_cons, show j + 1 + ys.length = j + (ys.length + 1) by omega]
      simp
    rw [e1] at h2
    exact ⟨h2.1, grownBy_trans h1.2 h2.2⟩
/-- The head of an owned row. -/
theorem own_shrink {w : World} {base : Nat} {e : TypeId} {size n n' c g : Nat} {xs : List Value} (h : w.ownsRow base e size (.slice (some ⟨g, 0, none⟩) n c) n xs) (hn : n' ≤ n) :
    w.ownsRow base e size (.slice (some ⟨g, 0, none⟩) n' c) n' (xs.take (n' * size)) := by
  have hm : n' * size ≤ n * size := Nat.mul_le_mul_right _ hn
  rcases h.2 with ⟨hv, _⟩ | ⟨g', cap, cur, hv, hb, hg, hc, hm', hs, ht⟩
  · cases hv
  · simp only [Value.slice.injEq, Option.some.injEq, Addr.mk.injEq, and_true, true_and] at hv
    obtain ⟨rfl, rfl⟩ := hv
    refine ⟨by rw [List.length_take, h.1]; omega, .inr ⟨g, c, cur, rfl, hb, hg, by omega, hm', hs, ?_⟩⟩
    rw [← ht, List.take_take]
    congr 1
    omega
theorem flat_take {α : Type} [Flat α] (l : List α) (m : Nat) : (flat l).take (m * Flat.sz α) = flat (l.take m) := by
  by_cases h : m ≤ l.length
  · have e1 : flat l = flat (l.take m) ++ flat (l.drop m) := by rw [← flat_append, List.take_append_drop]
    have e2 : (flat (l.take m)).length = m * Flat.sz α := by rw [flat_len, List.length_take]; congr 1; omega
    rw [e1, ← e2, List.take_left]
  · have : l.length * Flat.sz α ≤ m * Flat.sz α := Nat.mul_le_mul_right _ (by omega)
    rw [List.take_of_length_le (by rw [flat_len]; omega), List.take_of_length_le (by omega)]
theorem flat_takeI (L : List Int) (m : Nat) : (flat L).take m = flat (L.take m) := by
  have := flat_take L m
  rwa [show m * Flat.sz Int = m from Nat.mul_one _] at this
theorem flat_lenI (L : List Int) : (flat L).length = L.length := by rw [flat_len]; exact Nat.mul_one _
theorem flat_del (L : List Int) (m n : Nat) (hL : L.length = n) (hm : m < n) (Z : List Value) :
    (((flat L).take (m) ++ flat (L.drop (m + 1)) ++ (flat L).drop (m + (flat (L.drop (m + 1))).length)).take ((n - 1)) ++ Z ++
      ((flat L).take (m) ++ flat (L.drop (m + 1)) ++ (flat L).drop (m + (flat (L.drop (m + 1))).length)).drop ((n - 1) + Z.length)).take ((n - 1)) = flat (L.take m ++ L.drop (m + 1)) := by
  have h1 : (flat L).take (m) = flat (L.take m) := flat_takeI L m
  have h2 : (flat (L.take m ++ L.drop (m + 1))).length = (n - 1) := by
    rw [flat_lenI, List.length_append, List.length_take, List.length_drop, hL]; congr 1; omega
  have key : ∀ (X R Z D : List Value), ((X ++ R).take X.length ++ Z ++ D).take X.length = X := by intro X R Z D; simp
  rw [h1, ← flat_append, ← h2]
  exact key _ _ _ _

/-- clear of one struct. -/
theorem run_clear_one {P : Program} (w : World) (t e ty : TypeId) (z : Value) (ht : P.underlying t = some (.slice e)) (hv : ∀ w, (zeroValue e).run P w = .ok z w) (h1 : ∀ u ∈ z.cells.toList, u.oneCell' = true) (b o c : Nat)
    (hc : ∀ j, j < z.cells.toList.length → (w.cell? ⟨b, o + j, none⟩).isSome = true) (hf : ∀ j, j < z.cells.toList.length → w.frozen? ⟨b, o + j, none⟩ = false) :
    (Builtin.clear_ #[t] ty #[.slice (some ⟨b, o, none⟩) 1 c]).run P w = .ok (.tuple #[]) (w.setCells b o z.cells.toList) := by
  have hzc : (Builtin.zeroCells z.cells 1).toList = z.cells.toList := by
    simp [Builtin.zeroCells]
    apply List.ext_getElem
    · simp
    · intro i h1 h2
      simp at h1 h2 ⊢
      rw [Nat.mod_eq_of_lt h1]
      exact getElem!_pos z.cells _ h1
  have hst := run_storeCells_cells (P := P) b o z.cells.toList 0 w (by simpa using hc) (by simpa using hf) h1
  simp only [Nat.add_zero] at hst
  simp [Builtin.clear_, run_underlying ht, hv, hzc, hst]
/-- append of nothing, as a step of a region that draws. -/
theorem step_zero {P : Program} {w : World} {ops : Array Oper} {o : Oper} {a : Act} {K : Act → World → Prop} {Q : Exit → Act → World → Prop} {E : Prop} (hgd : o.guard = none) (s x : Operand) (t : TypeId)
    (ho : o.op = .call { callee := .builtin .append, args := #[s, x], argTypes := #[t, t] }) (e : TypeId) (i : TypeInfo) (ht : P.underlying t = some (.slice e)) (hi : P.info? e = some i)
    (A B : Option Addr) (n c cy : Nat) (hs : a.eval s = .slice A n c) (hx : a.eval x = .slice B 0 cy) (hc : n ≤ c) (h : K (a.put o.dst (.slice A n c)) w) :
    if Region.wanted o (yielded ops a.tmps) = true then Oper.wp P o a w K Q else E := by
  have hw : Region.wanted o (yielded ops a.tmps) = true := by simp [Region.wanted, hgd]
  rw [if_pos hw]
  have hr := run_append_zero (P := P) w t o.type e i ht hi A B n c cy hc
  unfold Oper.wp execOp
  simp only [ho, resolve, invoke, builtin, Sem.run_bind, Sem.run_pure, Result.andThen_ok, List.map_toArray, List.map_cons, List.map_nil, hs, hx, hr]
  exact h

theorem del_fin {W : World} {base : Nat} {e : TypeId} {n c g m : Nat} {L : List Int} (hL : L.length = n) (hm : m < n)
    (h : W.ownsRow base e 1 (.slice (some ⟨g, 0, none⟩) n c) n ((flat L).take (m) ++ flat (L.drop (m + 1)) ++ (flat L).drop (m + (flat (L.drop (m + 1))).length))) (a : Value) :
    (W.setCells g ((n - 1)) [a]).ownsRow base e 1 (.slice (some ⟨g, 0, none⟩) (n - 1) c) (n - 1) (flat (L.take m ++ L.drop (m + 1))) ∧ W.grownBy (W.setCells g ((n - 1)) [a]) (some g) := by
  have h1 := own_setCells [a] ((n - 1)) h (by rw [h.1]; simp; omega)
  have h2 := own_shrink (n' := n - 1) h1.1 (by omega)
  rw [Nat.mul_one] at h2
  rw [flat_del L m n hL hm [a]] at h2
  exact ⟨h2, h1.2⟩
/-- append where there is room, as a step of a region that draws. -/
theorem step_room {P : Program} {ops : Array Oper} {o : Oper} {a : Act} {w : World} {K : Act → World → Prop} {Q : Exit → Act → World → Prop} {E : Prop}
    (hg : o.guard = none) (s x : Operand) (t : TypeId) (hop : o.op = Op.call { callee := Callee.builtin Builtin.append, args := #[s, x], argTypes := #[t, t] })
    (e : TypeId) (i : TypeInfo) (size : Nat) (h1 : P.underlying t = some (.slice e)) (h2 : P.info? e = some i) (h4 : i.size = size)
    (b off n cap : Nat) (hs : a.eval s = .slice (some ⟨b, off, none⟩) n cap)
    (ad : Addr) (m c : Nat) (news : List Value) (hx : a.eval x = .slice (some ad) m c) (hn : news.length = m * size) (hc : ∀ j u, news[j]? = some u → w.cell? (ad.add j) = some u) (h1c : ∀ u ∈ news, u.oneCell' = true)
    (hroom : n + m ≤ cap) (hspare : ∀ j, j < news.length → (w.cell? ⟨b, off + n * size + j, none⟩).isSome = true ∧ w.frozen? ⟨b, off + n * size + j, none⟩ = false)
    (hK : ∀ w', Hid (w' = w.setCells b (off + n * size) news) → K (a.put o.dst (.slice (some ⟨b, off, none⟩) (n + m) cap)) w') :
    if Region.wanted o (yielded ops a.tmps) = true then Oper.wp P o a w K Q else E :=
  step_append_room hg s x t hop e i size h1 h2 h4 b off n cap hs ad m c news hx hn hc h1c hroom hspare (hK _ rfl)

theorem zeroInt (w : World) : (zeroValue 3).run Try.prog w = .ok (.int .i64 0) w := by kernel_rfl

set_option maxHeartbeats 4000000 in
set_option maxRecDepth 100000 in
theorem i_Delete (g c n m base : Nat) (L : List Int) (w : World) (hL : L.length = n) (hm : m < n) (hn : n ≤ 1048576) (hown : w.ownsRow base 3 1 (.slice (some ⟨g, 0, none⟩) n c) n (flat L)) :
    Calls Try.prog 45 #[.slice (some ⟨g, 0, none⟩) n c, .int .i64 m, .int .i64 ((m : Int) + 1)] w fun e w' => e = .returned (.slice (some ⟨g, 0, none⟩) (n - 1) c) ∧
      w'.ownsRow base 3 1 (.slice (some ⟨g, 0, none⟩) (n - 1) c) (n - 1) (flat (L.take m ++ L.drop (m + 1))) ∧ w.grownBy w' (some g) := by
  obtain ⟨i0, hi, hz0, hz1, hz2⟩ := info_parts infoInt
  have hcc : n ≤ c ∧ c ≤ maxLen := by
    obtain ⟨_, _, hv, hc, hc2, _⟩ := own_form hown
    simp only [Value.slice.injEq, true_and] at hv
    obtain ⟨rfl, rfl⟩ := hv
    exact ⟨hc, hc2⟩
  have hc1 := hcc.1
  have hc2 : c ≤ 9223372036854775807 := by have := hcc.2; unfold maxLen at this; omega
  clear hcc
  have HL := Lib.hid hL
  clear hL
  have bm0 : (0 : Int) ≤ (m : Int) := by omega
  have bm1 : (m : Int) ≤ (c : Int) := by omega
  have bm2 : (m : Int) + 1 ≤ (n : Int) := by omega
  have bm3 : (n : Int) ≤ (c : Int) := by omega
  have bm4 : (0 : Int) ≤ (m : Int) + 1 := by omega
  have sm : IntKind.i64.wrap ((m : Int) + 1) = (m : Int) + 1 := IntWalk.i64_in _ (by omega)
  have tm : ((m : Int) + 1).toNat = m + 1 := by omega
  have e1 : ((m : Int) == (m : Int) + 1) = false := by simp; omega
  have hnm : ¬(n = m) := by omega
  go_enter Try.func45, Try.ntmps45
  go_wp2_with fail
  have hlt : (L.drop (m + 1)).length = n - (m + 1) := by rw [List.length_drop, HL.out]
  have hfl : (flat (L.drop (m + 1))).length = (n - (m + 1)) := by rw [flat_lenI, hlt]
  have hnl : (flat L).length = n := by rw [flat_lenI, HL.out]
  have Hfl := Lib.hid hfl
  have Hnl := Lib.hid hnl
  -- what the append leaves
  have hset := own_setCells (flat (L.drop (m + 1))) (m) hown (by rw [hfl, hnl]; omega)
  have hap := Lib.hid hset
  have hcl1 : Hid (∀ j, j < 1 → ((w.setCells g (m) (flat (L.drop (m + 1)))).drew.cell? ⟨g, (n - 1) + j, none⟩).isSome = true) := fun j hj => by
    obtain ⟨u, hu⟩ := own_cell (hset.1.drew) (j := (n - 1) + j) (by omega)
    rw [hu]; rfl
  have hcl2 : Hid (∀ j, j < 1 → (w.setCells g (m) (flat (L.drop (m + 1)))).drew.frozen? ⟨g, (n - 1) + j, none⟩ = false) := fun j hj => World.ownsRow.frozenAt (hset.1.drew) _
  have hown' := Lib.hid hown
  clear hlt hfl hnl hset
  have hdrop : n = m + 1 → w.setCells g (m) (flat (L.drop (m + 1))) = w := fun h => by
    rw [List.drop_of_length_le (by rw [HL.out]; omega)]; rfl
  have Hdrop := Lib.hid hdrop
  clear hdrop
  by_cases hlast : n = m + 1
  · rw [Hdrop.out hlast] at hap hcl1 hcl2
    subst hlast
    have cn : (m : Int) + 1 - 1 = (m : Int) := by omega
    go_region_held3 (fun u => w = u ∨ True) (first | exact .inr trivial | go_keep)
      (first
        | (refine step_zero rfl (.tmp 22) (.tmp 25) 46 (by rfl) 3 i0 Try.underlying46 hi _ _ _ _ _ (by rfl) (by rfl) (by omega) ?_)
        | fail)
    have hcl : ∀ ty, (Builtin.clear_ #[46] ty #[.slice (some ⟨g, m, none⟩) 1 (c - m)]).run Try.prog w.drew = .ok (.tuple #[]) (w.drew.setCells g (m) [.int .i64 0]) := fun ty =>
      run_clear_one w.drew _ _ ty _ Try.underlying46 zeroInt (by simp [Value.cells, Value.oneCell']) g (m) (c - m) (fun j hj => by have := hcl1.out j hj; rwa [Nat.add_sub_cancel] at this) (fun j hj => by have := hcl2.out j hj; rwa [Nat.add_sub_cancel] at this)
    have hf := del_fin HL.out (by omega) hap.out.1.drew (.int .i64 0)
    rw [Nat.add_sub_cancel] at hf
    have HF := Lib.hid hf
    clear hf hcl1 hcl2 hap hown hown'
    have cm : ¬(c = m) := by omega
    go_wp2_with fail
    all_goals
      (try subst_vars)
      go_ret
      exact ⟨by simp, by simpa using HF.out.1, grownBy_trans ((Gw.refl w).drew.by_ _) HF.out.2⟩
  · obtain ⟨p, rfl⟩ : ∃ p, n = m + 1 + p := ⟨n - (m + 1), by omega⟩
    have hp0 : 0 < p := by omega
    have hcF : ¬(c = m + 1) := by omega
    have hpn : m + 1 + p - (m + 1) = p := by omega
    have hpm : m + 1 + p - 1 = m + p := by omega
    have bm2' : (m : Int) + 1 ≤ (m : Int) + 1 + (p : Int) := by omega
    have bm3' : (m : Int) + 1 + (p : Int) ≤ (c : Int) := by omega
    rw [hpn] at Hfl
    rw [hpm] at hcl1 hcl2
    have Hnews : Hid (∀ j u, (flat (L.drop (m + 1)))[j]? = some u → w.drew.cell? ((⟨g, (m + 1), none⟩ : Addr).add j) = some u) := fun j u hu => by
      have hadd : (⟨g, (m + 1), none⟩ : Addr).add j = ⟨g, (m + 1) + j, none⟩ := by unfold Addr.add; split <;> simp_all
      rw [hadd]
      have hj : j < (flat (L.drop (m + 1))).length := (List.getElem?_eq_some_iff.1 hu).1
      rw [Hfl.out] at hj
      have hfd : flat (L.drop (m + 1)) = (flat L).drop ((m + 1)) := by
        have e0 := flat_takeI L (m + 1)
        have e2 : flat L = flat (L.take (m + 1)) ++ flat (L.drop (m + 1)) := by rw [← flat_append, List.take_append_drop]
        have e3 : (flat (L.take (m + 1))).length = (m + 1) := by rw [flat_lenI, List.length_take, HL.out]; omega
        rw [e2]; have := List.drop_left (l₁ := flat (L.take (m + 1))) (l₂ := flat (L.drop (m + 1))); rw [e3] at this; exact this.symm
      have hq : (flat L)[(m + 1) + j]? = some u := by rw [← List.getElem?_drop, ← hfd]; exact hu
      have := World.ownsRow.cellAt hown'.out ((m + 1) + j) (by omega)
      exact this.trans hq
    have Hspare : Hid (∀ j, j < (flat (L.drop (m + 1))).length → (w.drew.cell? ⟨g, 0 + m + j, none⟩).isSome = true ∧ w.drew.frozen? ⟨g, 0 + m + j, none⟩ = false) := fun j hj => by
      rw [Hfl.out] at hj
      rw [Nat.zero_add]
      obtain ⟨u, hu⟩ := own_cell hown'.out.drew (j := m + j) (by omega)
      exact ⟨by rw [hu]; rfl, World.ownsRow.frozenAt hown'.out.drew _⟩
    have hf := del_fin HL.out (by omega) hap.out.1.drew (.int .i64 0)
    rw [hpm] at hf
    have hgg := Lib.hid hap.out.2
    have HF := Lib.hid hf
    have hwd : w.drew.setCells g (0 + m) (flat (L.drop (m + 1))) = (w.setCells g (m) (flat (L.drop (m + 1)))).drew := by
      rw [Nat.zero_add]
      have : ∀ (vs : List Value) (o : Nat) (w : World), (w.setCells g o vs).drew = w.drew.setCells g o vs := by
        intro vs
        induction vs with
        | nil => intro o w; rfl
        | cons v vs ih => intro o w; rw [World.setCells, World.setCells, ih]; rfl
      exact (this _ _ _).symm
    have Hwd := Lib.hid hwd
    clear hf hap hown hown' hpn hpm hwd
    go_region_held3 (fun u => w = u ∨ True) (first | exact .inr trivial | go_keep)
      (first
        | (refine step_room rfl (.tmp 22) (.tmp 25) 46 (by rfl) 3 i0 1 Try.underlying46 hi hz1 g 0 m c (by rfl) ⟨g, (m + 1), none⟩ _ _ (flat (L.drop (m + 1))) (by rfl) (by rw [Nat.mul_one]; exact Hfl.out) Hnews.out (flat_cell _) (by omega) (by rw [Nat.mul_one]; exact Hspare.out) ?_; intro W HW))
    have HW2 : Hid ((w.setCells g (m) (flat (L.drop (m + 1)))).drew = W) := by unfold Hid; rw [HW.out, Nat.mul_one, Hwd.out]
    rw [HW2.out] at hcl1 hcl2 HF
    have hgw2 : Hid (w.grownBy W (some g)) := by unfold Hid; rw [← HW2.out]; exact grownBy_trans hgg.out ((Gw.refl _).drew.by_ _)
    clear Hwd HW HW2 Hnews Hspare hgg
    have cm : ¬(c = m + p) := by omega
    have lm : m + 1 + p - (m + p) = 1 := by omega
    have bq1 : (m : Int) + (p : Int) ≤ (m : Int) + 1 + (p : Int) := by omega
    have hcl : ∀ ty, (Builtin.clear_ #[46] ty #[.slice (some ⟨g, (m + p), none⟩) 1 (c - (m + p))]).run Try.prog W = .ok (.tuple #[]) (W.setCells g ((m + p)) [.int .i64 0]) := fun ty =>
      run_clear_one W _ _ ty _ Try.underlying46 zeroInt (by simp [Value.cells, Value.oneCell']) g ((m + p)) (c - (m + p)) hcl1.out hcl2.out
    clear hcl1 hcl2
    go_wp2_with fail
    go_ret
    exact ⟨by simp [show m + 1 + p - 1 = m + p by omega], by rw [show m + 1 + p - 1 = m + p by omega]; exact HF.out.1, grownBy_trans hgw2.out HF.out.2⟩
end Go.Proofs.Ytoofpajeogllhaa
