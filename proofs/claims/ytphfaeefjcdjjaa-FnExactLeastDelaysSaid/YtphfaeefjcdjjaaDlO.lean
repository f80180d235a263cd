/-
  The reference's search: what is known of two performers.
-/
import Derived.Test.YtphfaeefjcdjjaaDlN
import Derived.Test.YtphfaeefjcdjjaaDlF
namespace Go.Proofs.Ytphfaeefjcdjjaa
open Go.RowKit Go.ChangeShapes Go.WideShapes
set_option linter.unusedVariables false

/-- What a number tells of two performers. -/
def KnV (b : Bool) (v : Int) : Prop := v = 0 ∨ (v = 1 ∧ b = false) ∨ (v = 2 ∧ b = true)
/-- The reference's box: the moves, the least distance and what is known. -/
structure KnD (w : World) (g : Nat) (mv : Value) (least : Int) (cl : Nat → Nat → Nat → Nat → Bool) (cs : Array Value) : Prop where
  box : BoxR w g cs 57
  size : cs.size = 902
  tab : ∀ i k p q, i < 6 → k < 6 → p < 5 → q < 5 → ∃ v, cs[2 + i * 150 + k * 25 + p * 5 + q]? = some (.int .i64 v) ∧ KnV (cl i k p q) v
  moves : cs[0]? = some mv
  least : cs[1]? = some (.int .i64 least)
theorem KnD.gw {w w' : World} {g : Nat} {mv : Value} {least : Int} {cl : Nat → Nat → Nat → Nat → Bool} {cs : Array Value} (h : KnD w g mv least cl cs) (hg : Gw w w') : KnD w' g mv least cl cs := { h with box := h.box.gw hg }
theorem KnD.put {w : World} {g : Nat} {mv : Value} {least : Int} {cl : Nat → Nat → Nat → Nat → Bool} {cs : Array Value} (h : KnD w g mv least cl cs) {i k p q : Nat} (hi : i < 6) (hk : k < 6) (hp : p < 5) (hq : q < 5) {v : Int} (hv : KnV (cl i k p q) v) :
    KnD (w.setCell ⟨g, 2 + i * 150 + k * 25 + p * 5 + q, none⟩ (.int .i64 v)) g mv least cl (cs.setIfInBounds (2 + i * 150 + k * 25 + p * 5 + q) (.int .i64 v)) where
  box := h.box.set _ _
  size := by simp [h.size]
  tab i' k' p' q' hi' hk' hp' hq' := by
    rw [Array.getElem?_setIfInBounds]
    by_cases e : 2 + i * 150 + k * 25 + p * 5 + q = 2 + i' * 150 + k' * 25 + p' * 5 + q'
    · obtain rfl : i = i' := by omega
      obtain rfl : k = k' := by omega
      obtain rfl : p = p' := by omega
      obtain rfl : q = q' := by omega
      rw [if_pos rfl, if_pos (by rw [h.size]; omega)]
      exact ⟨v, rfl, hv⟩
    · rw [if_neg e]
      exact h.tab i' k' p' q' hi' hk' hp' hq'
  moves := by rw [Array.getElem?_setIfInBounds, if_neg (by omega)]; exact h.moves
  least := by rw [Array.getElem?_setIfInBounds, if_neg (by omega)]; exact h.least
/-- The box in some state. -/
def KnB (w : World) (g : Nat) (mv : Value) (least : Int) (cl : Nat → Nat → Nat → Nat → Bool) : Prop := ∃ cs, KnD w g mv least cl cs
theorem KnB.gw {w w' : World} {g : Nat} {mv : Value} {least : Int} {cl : Nat → Nat → Nat → Nat → Bool} (h : KnB w g mv least cl) (hg : Gw w w') : KnB w' g mv least cl := by
  obtain ⟨cs, h⟩ := h
  exact ⟨cs, h.gw hg⟩
theorem clF_iff {L : List MvT} {least : Int} {n i k p q : Nat} (h1 : i < k) (h2 : k < n) : clF L least n i k p q = true ↔ closeM L least i k p q := by
  unfold clF
  simp only [decide_eq_true_eq]
  exact ⟨fun h => h.2.2, fun h => ⟨h1, h2, h⟩⟩

set_option maxHeartbeats 8000000 in
set_option maxRecDepth 100000 in
theorem s_fits (w0 : World) (g n : Nat) (L : List MvT) (A1 : Option Addr) (c1 : Nat) (C least : Int) (HM : Hid (Rd w0 A1 L)) (Hmv : Hid (∀ i, i < n → ∃ a b c d, L[i]? = some (a, b, c, d, C) ∧ MvS a b c d C)) (h6 : n ≤ 6) (hl : InR least 0 80)
    (i k p q : Nat) (w : World) (hgw : Gw w0 w) (hik : i < k) (hkn : k < n) (hp : p < 5) (hq : q < 5) (hb : KnB w g (.slice A1 n c1) least (clF L least n)) :
    Calls Try.prog 39 #[.pointer (some ⟨g, 0, none⟩), .int .i64 i, .int .i64 k, .int .i64 p, .int .i64 q] w fun e w' => e = .returned (.bool (!clF L least n i k p q)) ∧ KnB w' g (.slice A1 n c1) least (clF L least n) ∧ w.grownBy w' (some g) := by
  obtain ⟨a, b, c, d, hxi, hma⟩ := Hmv.out i (by omega)
  obtain ⟨a', b', c', d', hxk, hmb⟩ := Hmv.out k hkn
  obtain ⟨m1, o1, rfl, hbl, d0, d1, d2, d3, d4⟩ := (HM.out.gw hgw).get5 hxi
  obtain ⟨m2, o2, hae, hbl2, f0, f1, f2, f3, f4⟩ := (HM.out.gw hgw).get5 hxk
  simp only [Option.some.injEq, Addr.mk.injEq, and_true] at hae
  obtain ⟨rfl, rfl⟩ := hae
  have hcl := clF_iff (L := L) (least := least) (p := p) (q := q) hik hkn
  obtain ⟨cs, hkn'⟩ := hb
  obtain ⟨v, hv, hkv⟩ := hkn'.tab i k p q (by omega) (by omega) hp hq
  generalize hbb : clF L least n i k p q = bb at *
  have T := fun u => (s_rpFits a b c d a' b' c' d' C (p : Int) (q : Int) least u hma hmb (by omega) (by omega) hl).mono (tells_bool (b := !bb) (by rw [Bool.not_eq_true', ← Bool.not_eq_true, hcl, closeM_of hxi hxk]))
  have HT := Lib.hid T
  have hgl := hkn'.box.lt
  have z0 := hkn'.box.cell 0 hkn'.moves
  have z1 := hkn'.box.cell 1 hkn'.least
  have zv := hkn'.box.cell _ hv
  have zf := hkn'.box.free (2 + i * 150 + k * 25 + p * 5 + q)
  have HK := Lib.hid hkn'
  have Hbb := Lib.hid hbb
  have hi6 : (i : Int) < 6 := by omega
  have hk6 : (k : Int) < 6 := by omega
  have hp5 : (p : Int) < 5 := by omega
  have hq5 : (q : Int) < 5 := by omega
  have hi0 : (0 : Int) ≤ (i : Int) := by omega
  have hk0 : (0 : Int) ≤ (k : Int) := by omega
  have hp0 : (0 : Int) ≤ (p : Int) := by omega
  have hq0 : (0 : Int) ≤ (q : Int) := by omega
  have hin : (i : Int) < (n : Int) := by omega
  have hkn1 : (k : Int) < (n : Int) := by omega
  dsimp only at d0 d1 d2 d3 d4 f0 f1 f2 f3 f4
  clear T hcl hxi hxk hma hmb hkn' hbb hv
  rcases hkv with rfl | ⟨rfl, rfl⟩ | ⟨rfl, rfl⟩
  · have hput : ∀ (u : World) (v : Int), Gw w u → KnV bb v → KnB (u.setCell ⟨g, 2 + i * 150 + k * 25 + p * 5 + q, none⟩ (.int .i64 v)) g (.slice (some ⟨m1, o1, none⟩) n c1) least (clF L least n) ∧ w.grownBy (u.setCell ⟨g, 2 + i * 150 + k * 25 + p * 5 + q, none⟩ (.int .i64 v)) (some g) := fun u v hu hv =>
      ⟨⟨_, (HK.out.gw hu).put (by omega) (by omega) hp hq (by rw [Hbb.out]; exact hv)⟩, grow_set1 (hu.by_ _) _ _⟩
    have Hput := Lib.hid hput
    clear hput
    cases bb with
    | true =>
      go_enter Try.func39, Try.ntmps39
      go_wp2_with ((with_reducible refine wp_region_gw (by kernel_rfl) (by kernel_rfl) ?_); have hcq := @GwOf.cell; (repeat (go_big_quiet_step ((go_at_call 47; exact GwOf.call (HT.out _))))); refine wpQuiet_nil ?_; clear hcq; rintro w' ⟨⟨w', hb⟩, rfl⟩; (try dsimp only); have hc := hb.cells; have hf := hb.frozens; have hz := hb.size; (try simp at hz); (try have hz0 : w.heap.size < w'.heap.size := (by omega)); (try have hz1 : w.heap.size + 1 < w'.heap.size := (by omega)); (try have hz2 : w.heap.size + 2 < w'.heap.size := (by omega)); (try have hz3 : w.heap.size + 3 < w'.heap.size := (by omega)); (try have hz4 : w.heap.size + 4 < w'.heap.size := (by omega)); (try have hz5 : w.heap.size + 5 < w'.heap.size := (by omega)))
      go_ret
      exact ⟨rfl, Hput.out w' 2 hb (.inr (.inr ⟨rfl, rfl⟩))⟩
    | false =>
      go_enter Try.func39, Try.ntmps39
      go_wp2_with ((with_reducible refine wp_region_gw (by kernel_rfl) (by kernel_rfl) ?_); have hcq := @GwOf.cell; (repeat (go_big_quiet_step ((go_at_call 47; exact GwOf.call (HT.out _))))); refine wpQuiet_nil ?_; clear hcq; rintro w' ⟨⟨w', hb⟩, rfl⟩; (try dsimp only); have hc := hb.cells; have hf := hb.frozens; have hz := hb.size; (try simp at hz); (try have hz0 : w.heap.size < w'.heap.size := (by omega)); (try have hz1 : w.heap.size + 1 < w'.heap.size := (by omega)); (try have hz2 : w.heap.size + 2 < w'.heap.size := (by omega)); (try have hz3 : w.heap.size + 3 < w'.heap.size := (by omega)); (try have hz4 : w.heap.size + 4 < w'.heap.size := (by omega)); (try have hz5 : w.heap.size + 5 < w'.heap.size := (by omega)))
      go_ret
      exact ⟨rfl, Hput.out w' 1 hb (.inr (.inl ⟨rfl, rfl⟩))⟩
  · go_enter Try.func39, Try.ntmps39
    go_wp2_with fail
    go_ret
    exact ⟨rfl, ⟨cs, HK.out⟩, World.grownBy.refl _ _⟩
  · go_enter Try.func39, Try.ntmps39
    go_wp2_with fail
    go_ret
    exact ⟨rfl, ⟨cs, HK.out⟩, World.grownBy.refl _ _⟩
end Go.Proofs.Ytphfaeefjcdjjaa
