/-
  Draws of edits: two charts and an editor.
-/
import Derived.Test.YtoofpajeogllhaaEdJ
import Derived.Test.YtoofpajeogllhaaEdO
import Derived.Test.YtoofpajeogllhaaEdL
namespace Go.Proofs.Ytoofpajeogllhaa
open Go.RowKit

theorem runF_bd : ∀ (es : List Ed6) (l : List (Int × Int)) (k : Nat), (runF l es k).1.length = l.length
  | [], l, k => rfl
  | (x0, xp, y1, y2, z1, z2) :: es, l, k => by
    by_cases hF : FitP l xp y1 y2 z1 z2
    · rw [runF_yes hF, runF_bd es]; simp
    · rw [runF_no hF]
set_option maxHeartbeats 8000000 in
set_option maxRecDepth 20000 in
theorem d_EditsBetween (A : Option Addr) (cc : Nat) (bs : List UInt8) (w : World) (hl : bs.length ≤ 9223372036854775807) (hr : Rd w A bs) :
    Calls Try.prog 15 #[.slice A bs.length cc] w fun e w' => ∃ (l : List (Int × Int)) (B : Option Addr) (c : Nat) (r : List (Int × Int)) (D : Option Addr) (d : Nat) (ed : Int), e = .returned (.tuple #[.slice B l.length c, .slice D r.length d, .int .i64 ed]) ∧ l.length ≤ 13 ∧ r.length ≤ 13 ∧ w'.ownsRow w.heap.size 26 2 (.slice B l.length c) l.length (flat l) ∧ w'.ownsRow w.heap.size 26 2 (.slice D r.length d) r.length (flat r) ∧ Gw w w' := by
  obtain ⟨i0, hi, iz0, iz1, iz2⟩ := info_parts infoSpot
  have hC0 := CurP.new (c := cc) hr hl (Gw.refl w)
  go_enter Try.func15, Try.ntmps15
  go_wp2_with fail
  refine (s_anyChart (w0 := w) hC0 (by omega)).mono ?_
  rintro _ w1 ⟨l, A1, n, c1, rfl, rfl, hn, -, hown1, hC1, hr1⟩
  simp at hown1
  have hz1' := hr1.size; (try simp at hz1')
  have hcap := own_cap2 hown1
  go_wp2_with fail
  refine (s_chOwnA A1 c1 _ l _ rfl (by omega) (own_rd hown1)).mono ?_
  rintro _ w2 ⟨A2, c2, rfl, hown2, hb2⟩
  have hown1 := own_gw hown1 hb2
  have hown2 := own_lower hown2 (show w.heap.size + 1 ≤ w1.heap.size by omega)
  have hC2 := hC1.to hb2
  have hz2' := hb2.size
  clear hC1 hb2 hr1
  go_wp2_with fail
  refine (c_among (w0 := w) (by (repeat (first | with_reducible assumption | ((with_reducible apply CurP.set); rotate_left; (focus (first | (simp; done) | (simp; omega) | omega)); (focus (first | (simp; done) | (simp; omega) | omega))) | with_reducible apply CurP.alloc))) (by omega) (by simp [SmV]; try omega) (by first | rfl | simp) (by omega) (by omega) (by first | rfl | simp)).mono ?_
  rintro _ w3 ⟨u, rfl, ⟨hu1, hu2, -⟩, hC3, hr3⟩
  have hown1 := own_grow (hown1.alloc _) hr3 (by omega)
  have hown2 := own_grow (hown2.alloc _) hr3 (by omega)
  have hz3 := hr3.size; (try simp at hz3)
  clear hC2 hr3
  go_wp2_with fail
  refine (c_among (w0 := w) (by (repeat (first | with_reducible assumption | ((with_reducible apply CurP.set); rotate_left; (focus (first | (simp; done) | (simp; omega) | omega)); (focus (first | (simp; done) | (simp; omega) | omega))) | with_reducible apply CurP.alloc))) (by omega) (by simp [SmV]; try omega) (by first | rfl | simp) (by omega) (by omega) (by first | rfl | simp)).mono ?_
  rintro _ w4 ⟨ed, rfl, -, hC4, hr4⟩
  have hown1 := own_grow (hown1.alloc _) hr4 (by omega)
  have hown2 := own_grow (hown2.alloc _) hr4 (by omega)
  have hz4 := hr4.size; (try simp at hz4)
  clear hC3 hr4
  go_wp2_with fail
  refine (s_chGood _ _ _ _ (by omega) (own_rd hown1) hcap).mono ?_
  rintro _ w5 (⟨hp, rfl, hb5⟩ | ⟨-, rfl, hb5⟩)
  case inr =>
    have hown1 := own_gw hown1 hb5
    have hown2 := own_gw hown2 hb5
    have hC5 := hC4.to hb5
    clear hC4
    go_wp2_with fail
    go_ret3
    exact ⟨l, A1, c1, l, A2, c2, ed, rfl, hn, hn, own_lower hown1 (by omega), own_lower hown2 (by omega), hC5.gw⟩
  have hl1 : 1 ≤ l.length := by
    have := hp.2
    omega
  have hne : l ≠ [] := by intro h; rw [h] at hl1; simp at hl1
  have Hne := Lib.hid hne
  have hown1 := own_gw hown1 hb5
  have hC5 := hC4.to hb5
  have hz5 := hb5.size
  clear hC4 hb5 hp hne hown2
  go_wp2_with fail
  refine (s_edits (w0 := w) hC5 (by omega) l A1 c1 hn hown1 (by omega) (by omega)).mono ?_
  rintro _ w6 ⟨es, E, ce, rfl, hes, hownE, hC6, hr6⟩
  have hown1 := own_grow hown1 hr6 (by omega)
  have hz6 := hr6.size
  clear hC5 hr6
  go_wp2_with fail
  refine (s_edRunD A1 c1 l E ce es _ (by omega) (own_rd hown1) Hne.out (by omega) (own_rd hownE)).mono ?_
  rintro _ w7 ⟨A7, c7, rfl, hown7, hb7⟩
  have hown1 := own_gw hown1 hb7
  have hC7 := hC6.to hb7
  have hz7 := hb7.size
  obtain ⟨r, hrl, hown7⟩ : ∃ r : List (Int × Int), r.length = l.length ∧ w7.ownsRow w6.heap.size 26 2 (.slice A7 l.length c7) l.length (flat r) := ⟨_, runF_bd es l 0, hown7⟩
  obtain ⟨L, hL⟩ : ∃ L, l.length = L := ⟨_, rfl⟩
  have HL := Lib.hid hL
  have HR : Hid (r.length = L) := by unfold Hid; omega
  rw [hL] at hown1 hown7 hl1 hn hcap ⊢
  have hown7 := own_lower hown7 (show w.heap.size + 1 ≤ w6.heap.size by omega)
  generalize (runF l es 0).2 = nn
  clear hL hrl hC6 hb7 hownE
  go_wp2_with fail
  refine (c_pick (w0 := w) hC7 (by omega) (by omega)).mono ?_
  rintro _ w8 ⟨v, rfl, -, hC8, hr8⟩
  have hown1 := own_grow hown1 hr8 (by omega)
  have hown7 := own_grow hown7 hr8 (by omega)
  have hz8 := hr8.size
  clear hC7 hr8
  by_cases v0 : v = 0
  · subst v0
    go_wp2_with fail
    refine (c_pick (w0 := w) hC8 (by omega) (by omega)).mono ?_
    rintro _ w9 ⟨i, rfl, -, hC9, hr9⟩
    have hown1 := own_grow hown1 hr9 (by omega)
    have hown7 := own_grow hown7 hr9 (by omega)
    have hz9 := hr9.size
    clear hC8 hr9
    go_wp2_with fail
    refine (c_pick (w0 := w) hC9 (by omega) (by omega)).mono ?_
    rintro _ w10 ⟨k, rfl, -, hC10, hr10⟩
    have hown1 := own_grow hown1 hr10 (by omega)
    have hown7 := own_grow hown7 hr10 (by omega)
    have hz10 := hr10.size
    have hcap7 := own_cap2 hown7
    have rd7 : Rd w10 A7 r := own_rd (by rw [HR.out]; exact hown7)
    have T := s_SwapPerformers A7 c7 r i k w10 (by rw [HR.out]; omega) rd7 (by rw [HR.out]; exact hcap7)
    rw [HR.out] at T
    have T := Lib.hid T
    clear hC9 hr10
    go_wp2_with fail
    refine T.out.mono ?_
    rintro _ w11 ⟨q, D, d, b, rfl, hq, hownq, hb11⟩
    have hown1 := own_gw hown1 hb11
    have hC11 := hC10.to hb11
    clear T
    go_wp2_with fail
    go_ret3
    exact ⟨l, A1, c1, q, D, d, ed, by rw [HL.out]; rfl, by rw [HL.out]; exact hn, by omega, by rw [HL.out]; exact own_lower hown1 (by omega), own_lower hownq (by omega), hC11.gw⟩
  have b0 : (v == 0) = false := by simp [v0]
  by_cases v1 : v = 1
  · subst v1
    have HL2 := HL.out
    clear hown7 HR HL Hne
    obtain ⟨gg, rfl, hg1, hg2⟩ := own_addr hown1 (by omega)
    obtain ⟨x0, l', rfl⟩ : ∃ x0 l', l = x0 :: l' := by
      cases l with
      | nil => simp at HL2; omega
      | cons x0 l' => exact ⟨x0, l', rfl⟩
    obtain rfl : L = l'.length + 1 := by rw [← HL2]; rfl
    have rd8 : Rd w8 (some ⟨gg, 0, none⟩) (x0 :: l') := own_rd hown1
    have rdD : Rd w8 (some ⟨gg, 2, none⟩) l' := by
      have := rd8.drop 1
      simpa [show Flat.sz (Int × Int) = 2 from rfl] using this
    have rdE : c1 = 1 → Rd w8 (some ⟨gg, 0, none⟩) l' := by
      intro h
      obtain rfl : l' = [] := List.eq_nil_of_length_eq_zero (by omega)
      exact Rd.nil
    have T1 := fun h => s_chOwnA (some ⟨gg, 0, none⟩) 0 l'.length l' w8 rfl (by omega) (rdE h)
    have T2 := s_chOwnA (some ⟨gg, 2, none⟩) (c1 - 1) l'.length l' w8 rfl (by omega) rdD
    have T1 := Lib.hid T1
    have T2 := Lib.hid T2
    clear HL2 rdD rdE rd8
    by_cases hc1 : c1 = 1
    · have T := Lib.hid (T1.out hc1)
      clear T1 T2
      subst c1
      obtain rfl : l' = [] := List.eq_nil_of_length_eq_zero (by omega)
      go_wp2_with fail
      refine T.out.mono ?_
      rintro _ w9 ⟨A9, c9, rfl, hown9, hb9⟩
      have hown1 := own_gw hown1 hb9
      have hC9 := hC8.to hb9
      have hz9 := hb9.size
      clear hC8 T
      go_wp2_with (at_builtin; go_loud (refine wpList_push2 (α := (Int × Int)) rfl (.tmp 61) (.tmp 63) 24 rfl w8.heap.size 26 i0 _ 16 Try.underlying24 hi iz0 iz1 iz2 rfl (by omega) ([] : List (Int × Int)) A9 c9 rfl w9 (3, 5) rfl w9.heap.size rfl rfl hown9 (by omega) (by omega) ?_); intro acc' A' c'' w10 hacc' hl1 hl2 hown' hgr hblk _)
      have hlt9 := CurP.lt hC9
      go_ret3
      exact ⟨[x0], some ⟨gg, 0, none⟩, _, acc', A', c'', ed, rfl, (by first | (simp; done) | (simp; omega) | omega), (by first | (simp; done) | omega | (simp at hl2; omega)), own_lower (hown1.kept hgr (.inr fun e => by have := (hown9.lt gg e.symm).1; omega)) (by omega), own_lower hown' (by omega), hC9.gw.grown hgr (fun k hk => by have := (hown9.lt k hk).1; omega)⟩
    · have T := T2
      clear T1
      go_wp2_with fail
      refine T.out.mono ?_
      rintro _ w9 ⟨A9, c9, rfl, hown9, hb9⟩
      have hown1 := own_gw hown1 hb9
      have hC9 := hC8.to hb9
      have hz9 := hb9.size
      clear hC8 T
      go_wp2_with (at_builtin; go_loud (refine wpList_push2 (α := (Int × Int)) rfl (.tmp 61) (.tmp 63) 24 rfl w8.heap.size 26 i0 _ 16 Try.underlying24 hi iz0 iz1 iz2 rfl (by omega) l' A9 c9 rfl w9 (3, 5) rfl w9.heap.size rfl rfl hown9 (by omega) (by omega) ?_); intro acc' A' c'' w10 hacc' hl1 hl2 hown' hgr hblk _)
      have hlt9 := CurP.lt hC9
      go_ret3
      exact ⟨x0 :: l', some ⟨gg, 0, none⟩, _, acc', A', c'', ed, rfl, (by first | (simp; done) | (simp; omega) | omega), (by first | (simp; done) | omega | (simp at hl2; omega)), own_lower (hown1.kept hgr (.inr fun e => by have := (hown9.lt gg e.symm).1; omega)) (by omega), own_lower hown' (by omega), hC9.gw.grown hgr (fun k hk => by have := (hown9.lt k hk).1; omega)⟩
  have b1 : (v == 1) = false := by simp [v1]
  have stay : ∀ {w9 : World}, w9.ownsRow (w.heap.size + 1) 26 2 (.slice A1 L c1) L (flat l) → w9.ownsRow (w.heap.size + 1) 26 2 (.slice A7 L c7) L (flat r) → Gw w w9 → ∃ (l : List (Int × Int)) (B : Option Addr) (c : Nat) (r : List (Int × Int)) (D : Option Addr) (d : Nat) (ed' : Int), Ending.returned (.tuple #[.slice A1 L c1, .slice A7 L c7, .int .i64 ed]) = .returned (.tuple #[.slice B l.length c, .slice D r.length d, .int .i64 ed']) ∧ l.length ≤ 13 ∧ r.length ≤ 13 ∧ w9.ownsRow w.heap.size 26 2 (.slice B l.length c) l.length (flat l) ∧ w9.ownsRow w.heap.size 26 2 (.slice D r.length d) r.length (flat r) ∧ Gw w w9 := by
    intro w9 h1 h2 h3
    exact ⟨l, A1, c1, r, A7, c7, ed, by rw [HL.out, HR.out], by rw [HL.out]; exact hn, by rw [HR.out]; exact hn, by rw [HL.out]; exact own_lower h1 (by omega), by rw [HR.out]; exact own_lower h2 (by omega), h3⟩
  have Stay : Hid _ := Lib.hid (fun w9 => @stay w9)
  clear stay
  by_cases v2 : v = 2
  · subst v2
    go_wp2_with fail
    refine (s_one (w0 := w) _ _ _ 3 (by omega) (by omega) hC8).mono ?_
    rintro _ w9 ⟨o, rfl, hC9, hr9⟩
    have hown1 := own_grow hown1 hr9 (by omega)
    have hown7 := own_grow hown7 hr9 (by omega)
    have hz9 := hr9.size
    clear hC8 hr9
    cases o with
    | false =>
      go_wp2_with fail
      go_ret3
      exact Stay.out _ hown1 hown7 hC9.gw
    | true =>
      go_wp2_with fail
      refine (s_anyChart (w0 := w) hC9 (by omega)).mono ?_
      rintro _ w10 ⟨q, D, nq, d, rfl, rfl, hnq, -, hownq, hC10, hr10⟩
      have hown1 := own_grow hown1 hr10 (by omega)
      have hz10 := hr10.size
      clear hC9 hr10
      go_wp2_with fail
      go_ret3
      exact ⟨l, A1, c1, q, D, d, ed, by rw [HL.out]; rfl, by rw [HL.out]; exact hn, hnq, by rw [HL.out]; exact own_lower hown1 (by omega), own_lower hownq (by omega), hC10.gw⟩
  have b2 : (v == 2) = false := by simp [v2]
  go_wp2_with fail
  go_ret3
  exact Stay.out _ hown1 hown7 hC8.gw
end Go.Proofs.Ytoofpajeogllhaa
