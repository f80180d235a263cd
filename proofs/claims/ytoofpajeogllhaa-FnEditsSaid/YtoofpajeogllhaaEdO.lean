/-
  Two performers swapped.
-/
import Derived.Test.YtoofpajeogllhaaEdN
namespace Go.Proofs.Ytoofpajeogllhaa
open Go.RowKit

set_option maxHeartbeats 4000000 in
set_option maxRecDepth 20000 in
theorem s_SwapPerformers (A : Option Addr) (c : Nat) (l : List (Int × Int)) (i k : Int) (w : World) (hl : l.length ≤ 1048576) (hA : Rd w A l) (hlc : l.length ≤ c) :
    Calls Try.prog 43 #[.slice A l.length c, .int .i64 i, .int .i64 k] w fun e w' => ∃ (l' : List (Int × Int)) (B : Option Addr) (d : Nat) (b : Bool), e = .returned (.tuple #[.slice B l'.length d, .bool b]) ∧ l'.length ≤ l.length ∧ w'.ownsRow w.heap.size 26 2 (.slice B l'.length d) l'.length (flat l') ∧ Gw w w' := by
  go_enter Try.func43, Try.ntmps43
  go_wp2_with fail
  refine (s_chHas _ _ _ _ _ hl hA hlc).mono ?_
  rintro _ w1 (⟨hp, rfl, hb1⟩ | ⟨-, rfl, hb1⟩)
  case inr =>
    go_wp2_with fail
    go_ret2
    exact ⟨[], none, 0, false, rfl, Nat.zero_le _, World.ownsRow_nil _ _ _ _, hb1⟩
  have H1 := hp.2
  clear hp
  go_wp2_with fail
  refine (s_chHas _ _ _ _ _ hl (hA.gw hb1) hlc).mono ?_
  rintro _ w2 (⟨hp, rfl, hb2⟩ | ⟨-, rfl, hb2⟩)
  case inr =>
    go_wp2_with fail
    go_ret2
    exact ⟨[], none, 0, false, rfl, Nat.zero_le _, World.ownsRow_nil _ _ _ _, Gw.trans hb1 hb2⟩
  have H2 := hp.2
  clear hp
  have hA2 := (hA.gw hb1).gw hb2
  have hG2 := Gw.trans hb1 hb2
  obtain ⟨n, hn⟩ : ∃ n, l.length = n := ⟨_, rfl⟩
  have hk := Lib.hid hn
  rw [hn] at hl hlc H1 H2 ⊢
  clear hn
  obtain ⟨p, rfl⟩ : ∃ p : Nat, i = p := ⟨i.toNat, by omega⟩
  obtain ⟨q, rfl⟩ : ∃ q : Nat, k = q := ⟨k.toNat, by omega⟩
  go_wp2_with fail
  refine (s_chOwnA _ _ _ l _ hk.out hl hA2).mono ?_
  rintro _ w3 ⟨B, d, rfl, hown, hb3⟩
  obtain ⟨xp, hxp⟩ := get_of_lt (show p < l.length by rw [hk.out]; omega)
  obtain ⟨xq, hxq⟩ := get_of_lt (show q < l.length by rw [hk.out]; omega)
  obtain ⟨x1, x2⟩ := xp
  obtain ⟨y1, y2⟩ := xq
  have hA3 := hA2.gw hb3
  obtain ⟨b, off, rfl, hbl, c0, c1⟩ := hA3.get2 hxp
  obtain ⟨b', off', hE, -, c2, c3⟩ := hA3.get2 hxq
  cases hE
  obtain ⟨gg, hg, hg1, hg2⟩ := own_addr hown (by omega)
  subst hg
  have hbw : b < w2.heap.size := by obtain ⟨b', off', hE, h, -⟩ := hA2.get2 hxq; cases hE; exact h
  have hne : ¬b = gg := by omega
  have hne2 : ¬gg = b := by omega
  have d0 := own_cell hown (j := p * 2) (by omega)
  have d1 := own_cell hown (j := p * 2 + 1) (by omega)
  have d2 := own_cell hown (j := q * 2) (by omega)
  have d3 := own_cell hown (j := q * 2 + 1) (by omega)
  have f0 := World.ownsRow.frozenAt hown (p * 2)
  have f1 := World.ownsRow.frozenAt hown (p * 2 + 1)
  have f2 := World.ownsRow.frozenAt hown (q * 2)
  have f3 := World.ownsRow.frozenAt hown (q * 2 + 1)
  have hs := own_set2 (k := p) hown (y1, y2)
  have hs2 := own_set2 (k := q) hs.1 (x1, x2)
  have hgw := Lib.hid (hG2.trans (hb3.trans (Gw.refl _)))
  have hs3 := hG2.size
  obtain ⟨u0, d0⟩ := d0; obtain ⟨u1, d1⟩ := d1; obtain ⟨u2, d2⟩ := d2; obtain ⟨u3, d3⟩ := d3
  obtain ⟨u4, d4⟩ := own_cell hs.1 (j := q * 2) (by omega)
  have f4 := World.ownsRow.frozenAt hs.1 (q * 2)
  have h3 := (World.ownsRow.stored hs.1 (q * 2) (.int .i64 x1)).1
  obtain ⟨u5, d5⟩ := own_cell h3 (j := q * 2 + 1) (by omega)
  have f5 := World.ownsRow.frozenAt h3 (q * 2 + 1)
  clear hxp hxq h3
  go_wp2_with fail
  go_ret2
  have hl9 : ((l.set p (y1, y2)).set q (x1, x2)).length = n := by rw [List.length_set, List.length_set]; exact hk.out
  exact ⟨(l.set p (y1, y2)).set q (x1, x2), some ⟨gg, 0, none⟩, d, true, by rw [hl9]; rfl, by (have := hk.out; omega), by rw [hl9]; exact own_lower hs2.1 hs3, (hG2.trans hb3).grown (grownBy_trans hs.2 hs2.2) (fun j hj => by cases hj; omega)⟩
end Go.Proofs.Ytoofpajeogllhaa
