/-
  The reference's search: find.
-/
import Derived.Test.YtphfaeefjcdjjaaDlO
namespace Go.Proofs.Ytphfaeefjcdjjaa
open Go.RowKit Go.ChangeShapes Go.WideShapes
set_option linter.unusedVariables false

/-- What find gives. -/
def FoundD (w : World) (base n : Nat) (r : Option (List Int)) (v : Value) : Prop :=
  (r = none ∧ v = .slice none 0 0) ∨ (∃ (o : List Int) (A : Option Addr) (c : Nat), r = some o ∧ o.length = n ∧ v = .slice A n c ∧ w.ownsRow base 3 1 (.slice A n c) n (flat o))
theorem FoundD.gw {w w' : World} {base n : Nat} {r : Option (List Int)} {v : Value} (h : FoundD w base n r v) (hg : Gw w w') : FoundD w' base n r v := by
  rcases h with h | ⟨o, A, c, h1, h2, h3, h4⟩
  · exact .inl h
  · exact .inr ⟨o, A, c, h1, h2, h3, own_gw h4 hg⟩
theorem one_succ {cl : Nat → Nat → Nat → Nat → Bool} {k : Nat} {ds : List Int} {s p : Nat} (h : (List.range p).findSome? (oneD cl k ds s) = none) : (List.range (p + 1)).findSome? (oneD cl k ds s) = oneD cl k ds s p := by
  rw [List.range_succ, List.findSome?_append, h]
  cases hx : oneD cl k ds s p <;> simp [hx]
theorem one_more {cl : Nat → Nat → Nat → Nat → Bool} {k : Nat} {ds o : List Int} {s p : Nat} (h : (List.range p).findSome? (oneD cl k ds s) = none) (hp : p ≤ s) (hp4 : p < 5) (ho : oneD cl k ds s p = some o) : findD cl (k + 1) ds s = some o := by
  rw [findD_succ]
  obtain ⟨r, hr⟩ : ∃ r, min s 4 + 1 = p + 1 + r := ⟨min s 4 - p, by omega⟩
  rw [hr, List.range_add, List.findSome?_append, one_succ h, ho]
  rfl
def FindP (w0 : World) (g n : Nat) (mv : Value) (least : Int) (cl : Nat → Nat → Nat → Nat → Bool) (k : Nat) : Prop :=
    ∀ (m : Nat) (ds : List Int) (s : Nat) (w : World) (D : Option Addr) (d : Nat), m + k = n → ds.length = m → Dly ds → s ≤ 24 →
      w.ownsRow w0.heap.size 3 1 (.slice D m d) m (flat ds) → Gw w0 w → KnB w g mv least cl →
      Calls Try.prog 28 #[.pointer (some ⟨g, 0, none⟩), .slice D m d, .int .i64 s] w fun e w' => ∃ v, e = .returned v ∧ FoundD w' w0.heap.size n (findD cl k ds s) v ∧ KnB w' g mv least cl ∧ w.grownBy w' (some g)

set_option maxHeartbeats 16000000 in
set_option maxRecDepth 100000 in
theorem find_one (w0 : World) (g n : Nat) (L : List MvT) (A1 : Option Addr) (c1 : Nat) (C least : Int) (HM : Hid (Rd w0 A1 L)) (Hmv : Hid (∀ i, i < n → ∃ a b c d, L[i]? = some (a, b, c, d, C) ∧ MvS a b c d C)) (h1 : 1 ≤ n) (h6 : n ≤ 6) (hl : InR least 0 80) (hg : w0.heap.size ≤ g) (k : Nat)
    (IH : ∀ k', k = k' + 1 → FindP w0 g n (.slice A1 n c1) least (clF L least n) k') : FindP w0 g n (.slice A1 n c1) least (clF L least n) k := by
  intro m ds s w D d hmk hds hdl hs hown hgw hb
  have Hds := Lib.hid hds
  have Hdl := Lib.hid hdl
  have Hb := Lib.hid hb
  have Hown := Lib.hid hown
  have Hl := Lib.hid hl
  obtain ⟨cs0, hk0⟩ := hb
  have Hbox := Lib.hid hk0.box
  have hgl := hk0.box.lt
  have z0 := hk0.box.cell 0 hk0.moves
  clear hds hdl hown hk0 hl
  have Hgw := Lib.hid hgw
  cases k with
  | zero =>
    obtain rfl : m = n := by omega
    have e1 : ((m : Int) == (m : Int)) = true := by simp
    by_cases h0 : 0 < s
    · have e2 : decide ((s : Int) > 0) = true := by simp; omega
      have e3 : decide ((0 : Int) < (s : Int)) = true := by simp; omega
      have hf : Hid (findD (clF L least m) 0 ds s = none) := by unfold Hid findD; rw [if_pos h0]
      go_enter Try.func28, Try.ntmps28
      go_wp2_with fail
      go_ret
      exact ⟨_, rfl, .inl ⟨hf.out, rfl⟩, Hb.out, World.grownBy.refl _ _⟩
    · have e2 : decide ((s : Int) > 0) = false := by simp; omega
      have e3 : decide ((0 : Int) < (s : Int)) = false := by simp; omega
      have hf : Hid (findD (clF L least m) 0 ds s = some ds) := by unfold Hid findD; rw [if_neg h0]
      go_enter Try.func28, Try.ntmps28
      go_wp2_with fail
      go_ret
      exact ⟨_, rfl, .inr ⟨ds, D, d, hf.out, Hds.out, rfl, Hown.out⟩, Hb.out, World.grownBy.refl _ _⟩
  | succ k =>
    obtain ⟨i0, hi, hz0, hz1, hz2'⟩ := info_parts infoInt
    have hmn : m < n := by omega
    have e1 : ((m : Int) == (n : Int)) = false := by simp; omega
    have IH := Lib.hid (IH k rfl)
    have Hmk := Lib.hid hmk
    have hm0 : (0 : Int) ≤ (m : Int) := by omega
    clear hmk
    go_enter Try.func28, Try.ntmps28
    go_wp2_with fail
    go_loopw [8] (fun q wr => ∃ p : Nat, q = .int .i64 p ∧ p ≤ min s 4 + 1 ∧ Hid ((List.range p).findSome? (oneD (clF L least n) k ds s) = none) ∧ KnB wr g (.slice A1 n c1) least (clF L least n) ∧ w.grownBy wr (some g)) (fun q _ => 6 - (intOf q).toNat)
    case atStart => exact ⟨0, by go_num, by omega, rfl, Hb.out, World.grownBy.refl _ _⟩
    case round =>
      obtain ⟨wo, rfl⟩ : ∃ wo : World, wo = wr := ⟨_, rfl⟩
      obtain ⟨p, rfl, hp, hno, hkb, hgr⟩ := hrel
      have Hgr := Lib.hid hgr
      have hgwo := gw_box Hgw.out hg hgr
      have hgz := hgr.size
      clear hgr
      have hmin : Hid (min (s : Int) 4 = ((min s 4 : Nat) : Int)) := by unfold Hid; omega
      have hc4 : min s 4 ≤ 4 := by omega
      have hcs : min s 4 ≤ s := by omega
      obtain ⟨c4, hc4e⟩ : ∃ c4, min s 4 = c4 := ⟨_, rfl⟩
      have Hc4 := Lib.hid hc4e
      rw [hc4e] at hp hc4 hcs hmin
      clear hc4e
      by_cases hlt : p ≤ c4
      · have hd : decide ((p : Int) ≤ (c4 : Int)) = true := by simp; omega
        have hp0 : (0 : Int) ≤ (p : Int) := by omega
        have hownO := Lib.hid (own_box Hown.out Hbox.out (by decide) Hgr.out)
        have Hkb := Lib.hid hkb
        clear hkb
        go_wp2_with fail
        refine (s_l1Least _ _ _).mono ?_
        rintro _ _ ⟨rfl, rfl⟩
        rw [hmin.out]
        dsimp only
        go_wp2_with fail
        go_loopw [9, 33] (fun b q wr => ∃ j : Nat, q = .int .i64 j ∧ j ≤ m ∧ b = .bool (goodTo (clF L least n) ds p j) ∧ KnB wr g (.slice A1 n c1) least (clF L least n) ∧ w.grownBy wr (some g)) (fun _ q _ => m - (intOf q).toNat)
        case atStart => exact ⟨0, by go_num, Nat.zero_le _, by rw [goodTo_zero], Hkb.out, Hgr.out⟩
        case round =>
          clear hgwo hgz
          obtain ⟨wo, rfl⟩ : ∃ wo : World, wo = wr := ⟨_, rfl⟩
          obtain ⟨j, rfl, hj, rfl, hkb, hgr⟩ := hrel
          have Hgr := Lib.hid hgr
          have hgwo := gw_box Hgw.out hg hgr
          have hgz := hgr.size
          have Hkb := Lib.hid hkb
          have hownO := Lib.hid (own_box Hown.out Hbox.out (by decide) Hgr.out)
          have hrd : Hid (Rd wo D ds) := own_rd (by rw [Hds.out]; exact hownO.out)
          clear hgr hkb
          by_cases hjm : j < m
          · obtain ⟨x, hx⟩ := get_of_lt (l := ds) (k := j) (by rw [Hds.out]; exact hjm)
            obtain ⟨q, rfl, hq5⟩ := Hdl.out.at hx
            obtain ⟨b, off, rfl, hbl, d0⟩ := hrd.out.get1 hx
            have hsu : Hid (goodTo (clF L least n) ds p (j + 1) = (goodTo (clF L least n) ds p j && !clF L least n j m q p)) := by
              unfold Hid
              rw [goodTo_succ, Hds.out, getD_of hx, Int.toNat_natCast]
            clear hx
            have hj0 : (0 : Int) ≤ (j : Int) := by omega
            have hjm' : (j : Int) < (m : Int) := by omega
            have T := Lib.hid (s_fits w0 g n L A1 c1 C least HM Hmv h6 Hl.out j m q p wo hgwo hjm hmn hq5 (by omega) Hkb.out)
            generalize hcb : clF L least n j m q p = cb at hsu T
            clear hcb
            generalize hgt : goodTo (clF L least n) ds p j = gt at hsu ⊢
            clear hgt
            cases gt with
            | false =>
              have hsu2 : Hid (goodTo (clF L least n) ds p (j + 1) = false) := hsu
              go_wp2_with fail
              go_roundw
              case rel => exact ⟨j + 1, by go_num, by omega, by rw [hsu2.out], Hkb.out, Hgr.out⟩
              case measure => simp [intOf]; omega
            | true =>
              have hsu2 : Hid (goodTo (clF L least n) ds p (j + 1) = !cb) := hsu
              go_wp2_with fail
              refine T.out.mono ?_
              rintro _ w2 ⟨rfl, hkb2, hgr2⟩
              have HK2 := Lib.hid hkb2
              have HG2 := Lib.hid (grownBy_trans Hgr.out hgr2)
              clear hkb2 hgr2
              dsimp only
              go_wp2_with fail
              go_roundw
              case rel => exact ⟨j + 1, by go_num, by omega, by rw [hsu2.out], HK2.out, HG2.out⟩
              case measure => simp [intOf]; omega
          · obtain rfl : j = m := by omega
            have hgB : Hid (goodB (clF L least n) ds p = goodTo (clF L least n) ds p j) := by unfold Hid goodB; rw [Hds.out]
            generalize hgt : goodTo (clF L least n) ds p j = gt at hgB ⊢
            clear hgt
            cases gt with
            | false =>
              have hnone : Hid ((List.range (p + 1)).findSome? (oneD (clF L least n) k ds s) = none) := by
                unfold Hid
                rw [one_succ hno.out, oneD, hgB.out]
                rfl
              go_wp2_with fail
              go_roundw
              case rel => exact ⟨p + 1, by go_num, by rw [Hc4.out]; omega, hnone.out, Hkb.out, Hgr.out⟩
              case measure => simp [intOf]; omega
            | true =>
              have hone : Hid (oneD (clF L least n) k ds s p = findD (clF L least n) k (ds ++ [(p : Int)]) (s - p)) := by
                unfold Hid
                rw [oneD, hgB.out, if_pos rfl]
              have hsp : Hid ((s : Int) - (p : Int) = ((s - p : Nat) : Int)) := by unfold Hid; omega
              go_wp2_with fail
              refine (s_l1Own _ _ _ ds _ Hds.out (by omega) hrd.out).mono ?_
              rintro _ w2 ⟨A2, c2, rfl, hown2, hb2⟩
              have hz2 := hb2.size
              have HB2 := Lib.hid hb2
              have hgw2 := hgwo.trans hb2
              have hw2z := hgw2.size
              dsimp only
              go_wp2_with ((at_builtin; refine wpList_cat2 (α := Int) rfl (.tmp 52) (.tmp 54) 23 (by rfl) wo.heap.size 3 i0 _ 8 Try.underlying23 hi hz0 hz1 hz2' rfl (by omega) ds j Hds.out A2 c2 (by rfl) [(p : Int)] 1 rfl _ 1 (by rfl) (rdBox w2 _ (p : Int)) (hown2.alloc _) (by omega) (by omega) (by simp; omega) ?_; intro A3 c3 w3 hown3 hgg3 hgr3))
              have hgo3 : Gw wo w3 := hgg3 wo (HB2.out.alloc _) (Nat.le_refl _)
              clear hgg3 hgr3
              have T := IH.out (j + 1) (ds ++ [(p : Int)]) (s - p) w3 A3 c3 (by have := Hmk.out; omega) (by rw [List.length_append, Hds.out]; rfl) (Hdl.out.snoc (by omega)) (by omega) (own_lower hown3 (by have := hgwo.size; omega)) (hgwo.trans hgo3) (Hkb.out.gw hgo3)
              rw [hsp.out]
              refine T.mono ?_
              rintro _ w5 ⟨v, rfl, hfd, hkb5, hgr5⟩
              have HK5 := Lib.hid hkb5
              have HG5 := Lib.hid (grownBy_trans (grow_gw Hgr.out hgo3) hgr5)
              rw [← hone.out] at hfd
              clear T hkb5 hgr5 hown3 hown2
              rcases hfd with ⟨hr, rfl⟩ | ⟨o, A5, c5, hr, ho, rfl, hown5⟩
              · have hnone : Hid ((List.range (p + 1)).findSome? (oneD (clF L least n) k ds s) = none) := by
                  unfold Hid
                  rw [one_succ hno.out, hr]
                clear hr
                dsimp only
                go_wp2_with fail
                go_roundw
                case rel => exact ⟨p + 1, by go_num, by rw [Hc4.out]; omega, hnone.out, HK5.out, HG5.out⟩
                case measure => simp [intOf]; omega
              · have hfin : Hid (findD (clF L least n) (k + 1) ds s = some o) := one_more hno.out (by omega) (by omega) hr
                have Ho := Lib.hid ho
                have H5 := Lib.hid hown5
                have hn0 : (0 : Int) < (n : Int) := by omega
                have hn0' : decide ((n : Int) > 0) = true := by simp; omega
                clear hr ho hown5
                dsimp only
                go_wp2_with fail
                go_ret
                exact ⟨_, rfl, .inr ⟨o, A5, c5, hfin.out, Ho.out, rfl, H5.out⟩, HK5.out, HG5.out⟩
      · obtain rfl : p = c4 + 1 := by omega
        have hd : decide (((c4 + 1 : Nat) : Int) ≤ (c4 : Int)) = false := by simp; omega
        have hfin : Hid (findD (clF L least n) (k + 1) ds s = none) := by
          unfold Hid
          rw [findD_succ, Hc4.out]
          exact hno.out
        go_wp2_with fail
        refine (s_l1Least _ _ _).mono ?_
        rintro _ _ ⟨rfl, rfl⟩
        rw [hmin.out]
        dsimp only
        go_wp2_with fail
        go_ret
        exact ⟨_, rfl, .inl ⟨hfin.out, rfl⟩, hkb, Hgr.out⟩
theorem s_find (w0 : World) (g n : Nat) (L : List MvT) (A1 : Option Addr) (c1 : Nat) (C least : Int) (HM : Hid (Rd w0 A1 L)) (Hmv : Hid (∀ i, i < n → ∃ a b c d, L[i]? = some (a, b, c, d, C) ∧ MvS a b c d C)) (h1 : 1 ≤ n) (h6 : n ≤ 6) (hl : InR least 0 80) (hg : w0.heap.size ≤ g) : ∀ k, FindP w0 g n (.slice A1 n c1) least (clF L least n) k
  | 0 => find_one w0 g n L A1 c1 C least HM Hmv h1 h6 hl hg 0 (fun k' h => by omega)
  | k + 1 => find_one w0 g n L A1 c1 C least HM Hmv h1 h6 hl hg (k + 1) (fun k' h => (show k = k' by omega) ▸ s_find w0 g n L A1 c1 C least HM Hmv h1 h6 hl hg k)
end Go.Proofs.Ytphfaeefjcdjjaa
