/-
  What the search for delays needs: copies, a box beside what the call owns, the program's box.
-/
import Derived.Test.YtphfaeefjcdjjaaDlI
import Derived.Test.YtphfaeefjcdjjaaDlP
import Derived.Test.YtphfaeefjcdjjaaTyInt
import Derived.Lib.LazyBuf
namespace Go.Proofs.Ytphfaeefjcdjjaa
open Go.RowKit Go.ChangeShapes Go.WideShapes
set_option linter.unusedVariables false

theorem i_isLeast (n : Int) (w : World) : Calls Try.prog 21 #[.int .i64 n] w (TellsQ (InR n 0 80) w) := by
  go_enter Try.func21, Try.ntmps21
  go_wp2_with (first | (go_at_call 31; refine (i_within _ _ _ _).mono ?_; rintro e w' (⟨hp, rfl, rfl⟩ | ⟨hp, rfl, rfl⟩)))
  all_goals
    go_ret
    exact tellsQ_of (by first | (simp; done) | (simp; omega) | omega) 


theorem s_apDistance (n : Int) (w : World) : Calls Try.prog 16 #[.int .i64 n] w (TellsQ (InR n 0 80) w) := by
  go_enter Try.func16, Try.ntmps16
  go_wp2_with (first | (go_at_call 26; refine (s_l1In _ _ _ _).mono ?_; rintro e w' (⟨hp, rfl, rfl⟩ | ⟨hp, rfl, rfl⟩)))
  all_goals
    go_ret
    exact tellsQ_of (by first | (simp; done) | (simp; omega) | omega) 


set_option maxHeartbeats 1000000 in
theorem i_copyInts (B : Option Addr) (cy n : Nat) (m : List Int) (w : World) (hn : m.length = n) (hl : n ≤ 1048576) (hB : Rd w B m) :
    Calls Try.prog 44 #[.slice B n cy] w fun e w' => ∃ A c, e = .returned (.slice A n c) ∧ w'.ownsRow w.heap.size 3 1 (.slice A n c) n (flat m) ∧ Gw w w' := by
  obtain ⟨i0, hi, hz0, hz1, hz2⟩ := info_parts infoInt
  have HB := Lib.hid hB
  have Hn := Lib.hid hn
  clear hB hn
  go_enter Try.func44, Try.ntmps44
  go_wp2_with ((at_builtin; refine wpList_catAny (α := Int) rfl (.tmp 3) (.tmp 4) 23 rfl w.heap.size 3 i0 _ 8 Try.underlying23 hi hz0 hz1 hz2 rfl (by omega) [] (some ⟨w.heap.size, 0, none⟩) 0 rfl m n Hn.out B cy rfl (HB.out.gw (by (repeat (first | with_reducible exact Gw.refl _ | with_reducible assumption | ((with_reducible refine Gw.set ?_ ?_ _); rotate_left; (focus (first | (simp; done) | (simp; omega) | omega))) | with_reducible refine Gw.alloc ?_ _ | with_reducible refine Gw.drew ?_ | with_reducible refine Gw.drewN ?_ _ | (refine Gw.trans ?_ (by with_reducible assumption)))))) (World.ownsRow_made w #[] 0 (Nat.le_refl _) (by simp [maxLen]) (by simp)) (by simp) (by omega) (by simp) ?_; intro acc' A' c' w4 hacc' hl1 hown hgg))
  go_ret
  have hl2 : acc'.length = n := by simpa using hl1
  try rw [hl2] at hown
  have he : acc' = m := by simpa using hacc'.out
  rw [he] at hown
  exact ⟨A', c', rfl, hown, hgg w (by (repeat (first | with_reducible exact Gw.refl _ | with_reducible assumption | ((with_reducible refine Gw.set ?_ ?_ _); rotate_left; (focus (first | (simp; done) | (simp; omega) | omega))) | with_reducible refine Gw.alloc ?_ _ | with_reducible refine Gw.drew ?_ | with_reducible refine Gw.drewN ?_ _ | (refine Gw.trans ?_ (by with_reducible assumption))))) (Nat.le_refl _)⟩

set_option maxHeartbeats 1000000 in
theorem s_l1Own (B : Option Addr) (cy n : Nat) (m : List Int) (w : World) (hn : m.length = n) (hl : n ≤ 1048576) (hB : Rd w B m) :
    Calls Try.prog 40 #[.slice B n cy] w fun e w' => ∃ A c, e = .returned (.slice A n c) ∧ w'.ownsRow w.heap.size 3 1 (.slice A n c) n (flat m) ∧ Gw w w' := by
  obtain ⟨i0, hi, hz0, hz1, hz2⟩ := info_parts infoInt
  have HB := Lib.hid hB
  have Hn := Lib.hid hn
  clear hB hn
  go_enter Try.func40, Try.ntmps40
  go_wp2_with ((at_builtin; refine wpList_catAny (α := Int) rfl (.tmp 3) (.tmp 4) 23 rfl w.heap.size 3 i0 _ 8 Try.underlying23 hi hz0 hz1 hz2 rfl (by omega) [] (some ⟨w.heap.size, 0, none⟩) 0 rfl m n Hn.out B cy rfl (HB.out.gw (by (repeat (first | with_reducible exact Gw.refl _ | with_reducible assumption | ((with_reducible refine Gw.set ?_ ?_ _); rotate_left; (focus (first | (simp; done) | (simp; omega) | omega))) | with_reducible refine Gw.alloc ?_ _ | with_reducible refine Gw.drew ?_ | with_reducible refine Gw.drewN ?_ _ | (refine Gw.trans ?_ (by with_reducible assumption)))))) (World.ownsRow_made w #[] 0 (Nat.le_refl _) (by simp [maxLen]) (by simp)) (by simp) (by omega) (by simp) ?_; intro acc' A' c' w4 hacc' hl1 hown hgg))
  go_ret
  have hl2 : acc'.length = n := by simpa using hl1
  try rw [hl2] at hown
  have he : acc' = m := by simpa using hacc'.out
  rw [he] at hown
  exact ⟨A', c', rfl, hown, hgg w (by (repeat (first | with_reducible exact Gw.refl _ | with_reducible assumption | ((with_reducible refine Gw.set ?_ ?_ _); rotate_left; (focus (first | (simp; done) | (simp; omega) | omega))) | with_reducible refine Gw.alloc ?_ _ | with_reducible refine Gw.drew ?_ | with_reducible refine Gw.drewN ?_ _ | (refine Gw.trans ?_ (by with_reducible assumption))))) (Nat.le_refl _)⟩

theorem own_notbox {w : World} {base size n g : Nat} {e t : TypeId} {v : Value} {xs : List Value} {cs : Array Value} (h : w.ownsRow base e size v n xs) (hb : BoxR w g cs t) (hne : e ≠ t) : v.ownBlock ≠ some g := by
  intro hg
  rcases h.2 with ⟨rfl, _⟩ | ⟨g1, cap, cur, rfl, h1, h2, _⟩
  · simp [Value.ownBlock] at hg
  · simp [Value.ownBlock] at hg
    subst hg
    unfold BoxR at hb
    rw [hb] at h2
    simp at h2
    exact hne h2.2.symm
theorem grow_gw {a b c : World} {r : Option Nat} (h : a.grownBy b r) (hg : Gw b c) : a.grownBy c r := grownBy_trans h (hg.by_ r)
theorem grow_set1 {a b : World} {g : Nat} (h : a.grownBy b (some g)) (j : Nat) (u : Value) : a.grownBy (b.setCell ⟨g, j, none⟩ u) (some g) :=
  grownBy_trans h ⟨rfl, rfl, rfl, by simp, fun k _ hk => Below.heap_setCell _ _ _ k (fun e => hk (by rw [e]))⟩
theorem own_box {w w' : World} {base size n g : Nat} {e t : TypeId} {v : Value} {xs : List Value} {cs : Array Value} (h : w.ownsRow base e size v n xs) (hb : BoxR w g cs t) (hne : e ≠ t) (hg : w.grownBy w' (some g)) : w'.ownsRow base e size v n xs :=
  h.kept hg (.inr (own_notbox h hb hne))
theorem gw_box {w0 w w' : World} {g : Nat} (h : Gw w0 w) (hg0 : w0.heap.size ≤ g) (hg : w.grownBy w' (some g)) : Gw w0 w' := h.grown hg (fun k hk => by cases hk; exact hg0)
/-- Code behind n statements. -/
def tailC : Nat → Code → Code
  | 0, c => c
  | n + 1, .seq _ b => tailC n b
  | _ + 1, c => c

/-- The best so far, as two cells hold it. -/
def BestD (w : World) (base n : Nat) (st : Option (List Int × Int)) (v : Value) (e : Int) : Prop :=
  (st = none ∧ v = .slice none 0 0 ∧ e = 0) ∨ (∃ (o : List Int) (h c : Nat), st = some (o, e) ∧ 0 ≤ e ∧ e ≤ 24 ∧ o.length = n ∧ v = .slice (some ⟨h, 0, none⟩) n c ∧ w.ownsRow base 3 1 (.slice (some ⟨h, 0, none⟩) n c) n (flat o))
theorem BestD.gw {w w' : World} {base n : Nat} {st : Option (List Int × Int)} {v : Value} {e : Int} (h : BestD w base n st v e) (hg : Gw w w') : BestD w' base n st v e := by
  rcases h with h | ⟨o, g, c, h1, h2, h3, h4, h5, h6⟩
  · exact .inl h
  · exact .inr ⟨o, g, c, h1, h2, h3, h4, h5, own_gw h6 hg⟩
/-- The table of who comes too close, in a box. -/
structure TabD (w : World) (g : Nat) (cl : Nat → Nat → Nat → Nat → Bool) (n : Nat) (v : Value) (e : Int) (cs : Array Value) : Prop where
  box : BoxR w g cs 69
  size : cs.size = 903
  tab : ∀ i k p q, i < 6 → k < 6 → p < 5 → q < 5 → cs[i * 150 + k * 25 + p * 5 + q]? = some (.bool (cl i k p q))
  num : cs[900]? = some (.int .i64 n)
  best : cs[901]? = some v
  sum : cs[902]? = some (.int .i64 e)
theorem TabD.gw {w w' : World} {g : Nat} {cl : Nat → Nat → Nat → Nat → Bool} {n : Nat} {v : Value} {e : Int} {cs : Array Value} (h : TabD w g cl n v e cs) (hg : Gw w w') : TabD w' g cl n v e cs := { h with box := h.box.gw hg }
theorem TabD.cell {w : World} {g : Nat} {cl : Nat → Nat → Nat → Nat → Bool} {n : Nat} {v : Value} {e : Int} {cs : Array Value} (h : TabD w g cl n v e cs) {i k p q : Nat} (hi : i < 6) (hk : k < 6) (hp : p < 5) (hq : q < 5) : w.cell? ⟨g, i * 150 + k * 25 + p * 5 + q, none⟩ = some (.bool (cl i k p q)) := h.box.cell _ (h.tab i k p q hi hk hp hq)
theorem TabD.setBest {w : World} {g : Nat} {cl : Nat → Nat → Nat → Nat → Bool} {n : Nat} {v : Value} {e : Int} {cs : Array Value} (h : TabD w g cl n v e cs) (v' : Value) (e' : Int) :
    TabD ((w.setCell ⟨g, 901, none⟩ v').setCell ⟨g, 902, none⟩ (.int .i64 e')) g cl n v' e' ((cs.setIfInBounds 901 v').setIfInBounds 902 (.int .i64 e')) where
  box := (h.box.set 901 v').set 902 _
  size := by simp [h.size]
  tab i k p q hi hk hp hq := by
    rw [Array.getElem?_setIfInBounds, if_neg (by omega), Array.getElem?_setIfInBounds, if_neg (by omega)]
    exact h.tab i k p q hi hk hp hq
  num := by rw [Array.getElem?_setIfInBounds, if_neg (by omega), Array.getElem?_setIfInBounds, if_neg (by omega)]; exact h.num
  best := by rw [Array.getElem?_setIfInBounds, if_neg (by omega), Array.getElem?_setIfInBounds, if_pos rfl, if_pos (by rw [h.size]; omega)]
  sum := by rw [Array.getElem?_setIfInBounds, if_pos rfl, if_pos (by simp [h.size])]
def SearchD (w : World) (g base : Nat) (cl : Nat → Nat → Nat → Nat → Bool) (n : Nat) (st : Option (List Int × Int)) : Prop := ∃ v e cs, TabD w g cl n v e cs ∧ BestD w base n st v e
theorem SearchD.gw {w w' : World} {g base : Nat} {cl : Nat → Nat → Nat → Nat → Bool} {n : Nat} {st : Option (List Int × Int)} (h : SearchD w g base cl n st) (hg : Gw w w') : SearchD w' g base cl n st := by
  obtain ⟨v, e, cs, h1, h2⟩ := h
  exact ⟨v, e, cs, h1.gw hg, h2.gw hg⟩
end Go.Proofs.Ytphfaeefjcdjjaa
