/-
  A copy of a list that may be empty.
-/
import Derived.Test.YtoofpajeogllhaaEdL
namespace Go.Proofs.Ytoofpajeogllhaa
open Go.RowKit

set_option maxHeartbeats 1000000 in
theorem s_chOwnA (A : Option Addr) (cap n : Nat) (l : List (Int × Int)) (w : World) (hn : l.length = n) (hl : n ≤ 1048576) (hA : Rd w A l) :
    Calls Try.prog 40 #[.slice A n cap] w fun e' w' => ∃ A c, e' = .returned (.slice A n c) ∧
      w'.ownsRow w.heap.size 26 2 (.slice A n c) n (flat l) ∧ Gw w w' := by
  subst hn
  obtain ⟨i0, hi, hz0, hz1, hz2⟩ := info_parts infoSpot
  go_enter Try.func40, Try.ntmps40
  go_wp2_with (at_builtin; refine wpList_catAny (α := (Int × Int)) rfl (.tmp 3) (.tmp 4) 24 rfl w.heap.size 26 i0 _ 16 Try.underlying24 hi hz0 hz1 hz2 rfl (by omega) [] (some ⟨w.heap.size, 0, none⟩) 0 rfl l l.length rfl A cap rfl (hA.gw (by (repeat (first | with_reducible exact Gw.refl _ | with_reducible assumption | ((with_reducible refine Gw.set ?_ ?_ _); rotate_left; (focus (first | (simp; done) | (simp; omega) | omega))) | with_reducible refine Gw.alloc ?_ _ | with_reducible refine Gw.drew ?_ | with_reducible refine Gw.drewN ?_ _ | (refine Gw.trans ?_ (by with_reducible assumption)))))) (World.ownsRow_made w #[] 0 (Nat.le_refl _) (by simp [maxLen]) (by simp)) (by simp) hl (by simp) ?_; intro acc' A' c' w2 hacc' hl1 hown' hgg)
  go_ret
  have he := hacc'.out
  rw [List.nil_append] at he
  subst he
  exact ⟨A', c', rfl, hown', hgg w (by (repeat (first | with_reducible exact Gw.refl _ | with_reducible assumption | ((with_reducible refine Gw.set ?_ ?_ _); rotate_left; (focus (first | (simp; done) | (simp; omega) | omega))) | with_reducible refine Gw.alloc ?_ _ | with_reducible refine Gw.drew ?_ | with_reducible refine Gw.drewN ?_ _ | (refine Gw.trans ?_ (by with_reducible assumption))))) (Nat.le_refl _)⟩
end Go.Proofs.Ytoofpajeogllhaa
