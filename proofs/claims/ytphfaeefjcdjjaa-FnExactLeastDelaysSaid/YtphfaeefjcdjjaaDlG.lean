/-
  Matchings, and transitions of this chapter.
-/
import Derived.Test.YtphfaeefjcdjjaaDlF
import Derived.Test.YtphfaeefjcdjjaaChart
import Derived.Lib.RabinKarpLaws
import Derived.Lib.QuoteBits
namespace Go.Proofs.Ytphfaeefjcdjjaa
open Go.RowKit
set_option linter.unusedVariables false

theorem s_l1Has (A : Option Addr) (c n : Nat) (l : List Int) (x : Int) (w : World) (hn : l.length = n) (hl : n ≤ 1048576) (hA : Rd w A l) :
    Calls Try.prog 46 #[.slice A n c, .int .i64 x] w (Tells (x ∈ l) w) := by
  subst hn
  go_enter Try.func46, Try.ntmps46
  go_wp2
  go_loopw [9] (fun i wr => ∃ k : Nat, i = .int .i64 k ∧ k ≤ l.length ∧ Hid (x ∉ l.take k) ∧ Gw w wr) (fun i _ => l.length - (intOf i).toNat)
  case atStart => exact ⟨0, by go_num, Nat.zero_le _, by unfold Hid; simp, by (repeat (first | with_reducible exact Gw.refl _ | with_reducible assumption | ((with_reducible refine Gw.set ?_ ?_ _); rotate_left; (focus (first | (simp; done) | (simp; omega) | omega))) | with_reducible refine Gw.alloc ?_ _ | with_reducible refine Gw.drew ?_ | with_reducible refine Gw.drewN ?_ _ | (refine Gw.trans ?_ (by with_reducible assumption))))⟩
  case round =>
    obtain ⟨k, rfl, hk, hall, hgw⟩ := hrel
    by_cases hlt : k < l.length
    · obtain ⟨y, hy⟩ := get_of_lt hlt
      obtain ⟨b, off, rfl, hb, c0⟩ := (hA.gw hgw).get1 hy
      have Hy : Hid (l[k]? = some y) := hy
      have htk : Hid (l.take (k + 1) = l.take k ++ [y]) := by unfold Hid; rw [List.take_add_one, hy]; rfl
      clear hy
      by_cases e : y = x
      · have e1 : (y == x) = true := by simp [e]
        have hm : Hid (x ∈ l) := by unfold Hid; rw [← e]; exact mem_of_get Hy.out
        clear e
        go_wp2_with fail
        go_ret
        exact .inl ⟨hm.out, rfl, hgw⟩
      · have e1 : (y == x) = false := by simp [e]
        have hn : Hid (x ∉ l.take (k + 1)) := by
          unfold Hid
          rw [htk.out]
          simp only [List.mem_append, List.mem_singleton, not_or]
          exact ⟨hall.out, fun h => e h.symm⟩
        clear e
        go_wp2_with fail
        go_roundw
        case rel => exact ⟨k + 1, by go_num, by omega, hn, hgw⟩
        case measure => simp [intOf]; omega
    · have hn : Hid (x ∉ l) := by
        have := hall.out
        rw [List.take_of_length_le (by omega)] at this
        exact this
      go_wp2_with fail
      go_ret
      exact .inr ⟨hn.out, rfl, hgw⟩

def MaTo (l : List Int) (n k : Nat) : Prop := ∀ i x, i < k → l[i]? = some x → (0 ≤ x ∧ x ≤ (n : Int) - 1) ∧ x ∉ l.take i
abbrev MatchP (l : List Int) (n : Nat) : Prop := (∀ i x, l[i]? = some x → (0 ≤ x ∧ x ≤ (n : Int) - 1) ∧ x ∉ l.take i) ∧ l.length = n
theorem MaTo.succ {l : List Int} {n k : Nat} {x : Int} (h : MaTo l n k) (hx : l[k]? = some x) (hp : (0 ≤ x ∧ x ≤ (n : Int) - 1) ∧ x ∉ l.take k) : MaTo l n (k + 1) := by
  intro i y hi hy
  by_cases e : i = k
  · subst e; rw [hx] at hy; cases hy; exact hp
  · exact h i y (by omega) hy
theorem MaTo.all {l : List Int} {n k : Nat} (h : MaTo l n k) (hk : l.length ≤ k) : ∀ i x, l[i]? = some x → (0 ≤ x ∧ x ≤ (n : Int) - 1) ∧ x ∉ l.take i :=
  fun i x hx => h i x (by have := (List.getElem?_eq_some_iff.1 hx).1; omega) hx

/-- The bits of a mask say who is used. -/
def MaskP (m : Nat) (l : List Int) : Prop := ∀ j : Nat, m.testBit j = true ↔ (j : Int) ∈ l
theorem mask_nil : MaskP 0 [] := fun j => by simp
theorem mask_and (m z : Nat) (hm : m < 4096) : (Go.bits .and .i64 ((m : Int) / 2 ^ z) 1 == 1) = m.testBit z := by
  have e : (m : Int) / 2 ^ z = ((m / 2 ^ z : Nat) : Int) := by simp
  have hle : m / 2 ^ z ≤ m := Nat.div_le_self _ _
  rw [e, Go.Proofs.and_one _ (by omega), Nat.testBit_eq_decide_div_mod_eq]
  by_cases h : m / 2 ^ z % 2 = 1
  · rw [h]; rfl
  · have : m / 2 ^ z % 2 = 0 := by omega
    rw [this]; rfl
theorem mask_or (m z : Nat) (hm : m < 4096) (hz : z < 12) : Go.bits .or .i64 (m : Int) (wrap64 (2 ^ z)) = ((m ||| 2 ^ z : Nat) : Int) ∧ m ||| 2 ^ z < 4096 := by
  have hp : 2 ^ z < 4096 := Nat.pow_lt_pow_right (by omega) hz
  have hlt : m ||| 2 ^ z < 2 ^ 12 := Nat.or_lt_two_pow hm hp
  obtain ⟨q, hq⟩ : ∃ q : Nat, 2 ^ z = q := ⟨_, rfl⟩
  have h2 : (2 : Int) ^ z = (q : Int) := by rw [← hq]; simp
  rw [hq] at hp hlt ⊢
  rw [h2]
  have e : wrap64 (q : Int) = (q : Int) := by unfold wrap64; omega
  rw [e]
  refine ⟨?_, hlt⟩
  show IntKind.i64.wrap ((BitVec.ofInt 64 (m : Int) ||| BitVec.ofInt 64 (q : Int)).toNat : Int) = _
  have h1 : (BitVec.ofInt 64 (m : Int)).toNat = m := by rw [BitVec.ofInt_natCast, BitVec.toNat_ofNat]; exact Nat.mod_eq_of_lt (by omega)
  have h2 : (BitVec.ofInt 64 (q : Int)).toNat = q := by rw [BitVec.ofInt_natCast, BitVec.toNat_ofNat]; exact Nat.mod_eq_of_lt (by omega)
  rw [BitVec.toNat_or, h1, h2]
  exact IntWalk.i64_in _ (by omega)
theorem mask_snoc {m z : Nat} {l : List Int} (h : MaskP m l) : MaskP (m ||| 2 ^ z) (l ++ [(z : Int)]) := fun j => by
  rw [Nat.testBit_or, Nat.testBit_two_pow, Bool.or_eq_true, h j, List.mem_append, List.mem_singleton, decide_eq_true_eq]
  exact or_congr Iff.rfl ⟨fun h => by omega, fun h => by omega⟩

set_option maxHeartbeats 2000000 in
theorem i_isMatching (A : Option Addr) (c : Nat) (l : List Int) (n : Nat) (w : World) (hl : l.length ≤ 1048576) (hA : Rd w A l) (hn : n ≤ 12) :
    Calls Try.prog 42 #[.slice A l.length c, .int .i64 n] w (Tells (MatchP l n) w) := by
  go_enter Try.func42, Try.ntmps42
  go_wp2_with fail
  go_loopw [5, 7, 10] (fun u _ i wr => ∃ k m : Nat, i = .int .i64 k ∧ u = .int .i64 m ∧ m < 4096 ∧ k ≤ l.length ∧ Hid (MaskP m (l.take k)) ∧ Hid (MaTo l n k) ∧ Gw w wr) (fun _ _ i _ => l.length - (intOf i).toNat)
  case atStart => exact ⟨0, 0, by go_num, by go_num, by omega, Nat.zero_le _, by rw [List.take_zero]; exact mask_nil, fun _ _ h => absurd h (by omega), Gw.refl _⟩
  case round =>
    obtain ⟨k, m, rfl, rfl, hm, hk, hmask, hall, hgw⟩ := hrel
    by_cases hlt : k < l.length
    · obtain ⟨x, hx⟩ := get_of_lt hlt
      obtain ⟨b, off, rfl, hb, c0⟩ := (hA.gw hgw).get1 hx
      have Hx : Hid (l[k]? = some x) := hx
      have hsn : Hid (l.take (k + 1) = l.take k ++ [x]) := by unfold Hid; rw [List.take_add_one, hx]; rfl
      have hkz : (0 : Int) ≤ (k : Int) := by omega
      have hkl : (k : Int) < (l.length : Int) := by omega
      clear hx
      by_cases hin : 0 ≤ x ∧ x ≤ (n : Int) - 1
      · obtain ⟨z, rfl⟩ := Int.eq_ofNat_of_zero_le hin.1
        have e1 := mask_and m z hm
        obtain ⟨e2, hm2⟩ := mask_or m z hm (by omega)
        have hms := hmask.out z
        generalize hb2 : m.testBit z = tb at *
        cases tb with
        | true =>
          have hu : Hid ((z : Int) ∈ l.take k) := hms.1 rfl
          clear hms
          go_wp2_with (go_at_call 31; refine (i_within _ _ _ _).mono ?_; rintro _ w2 (⟨hp, rfl, rfl⟩ | ⟨hp, rfl, rfl⟩))
          · go_ret
            exact .inr ⟨fun h => (h.1 k _ Hx.out).2 hu.out, rfl, hgw⟩
          · exact absurd hin hp
        | false =>
          have hu : Hid (¬(z : Int) ∈ l.take k) := fun h => by have := hms.2 h; cases this
          clear hms
          go_wp2_with (go_at_call 31; refine (i_within _ _ _ _).mono ?_; rintro _ w2 (⟨hp, rfl, rfl⟩ | ⟨hp, rfl, rfl⟩))
          · go_roundw
            case rel => exact ⟨k + 1, m ||| 2 ^ z, by go_num, by rfl, hm2, by omega, by rw [hsn.out]; exact mask_snoc hmask.out, hall.out.succ Hx.out ⟨hin, hu.out⟩, hgw⟩
            case measure => simp [intOf]; omega
          · exact absurd hin hp
      · have Hin := Lib.hid hin
        go_wp2_with (go_at_call 31; refine (i_within _ _ _ _).mono ?_; rintro _ w2 (⟨hp, rfl, rfl⟩ | ⟨hp, rfl, rfl⟩))
        all_goals
          go_ret
          exact .inr ⟨fun h => Hin.out (h.1 k _ Hx.out).1, rfl, hgw⟩
    · have HA : Hid (∀ i x, l[i]? = some x → (0 ≤ x ∧ x ≤ (n : Int) - 1) ∧ x ∉ l.take i) := MaTo.all hall.out (by omega)
      go_wp2_with fail
      go_ret
      exact tells_of (by simp; exact ⟨fun h => ⟨HA.out, by omega⟩, fun h => by have := h.2; omega⟩) hgw

set_option maxHeartbeats 2000000 in
theorem s_maPlaces (A : Option Addr) (c : Nat) (l : List Int) (n : Nat) (w : World) (hl : l.length ≤ 1048576) (hA : Rd w A l) (hlc : l.length ≤ c) (hn : n ≤ 12) :
    Calls Try.prog 37 #[.slice A l.length c, .int .i64 n] w (Tells (MatchP l n) w) := by
  go_enter Try.func37, Try.ntmps37
  go_wp2_with fail
  go_loopw [5, 6, 9] (fun _ _ i wr => ∃ k : Nat, i = .int .i64 k ∧ k ≤ l.length ∧ Hid (MaTo l n k) ∧ Gw w wr) (fun _ _ i _ => l.length - (intOf i).toNat)
  case atStart => exact ⟨0, by go_num, Nat.zero_le _, fun _ _ h => absurd h (by omega), Gw.refl _⟩
  case round =>
    obtain ⟨k, rfl, hk, hall, hgw⟩ := hrel
    by_cases hlt : k < l.length
    · obtain ⟨x, hx⟩ := get_of_lt hlt
      have hAr := hA.gw hgw
      have hAt := (hAr.take k)
      obtain ⟨b, off, rfl, hb, c0⟩ := hAr.get1 hx
      have Hx : Hid (l[k]? = some x) := hx
      have hlk : Hid ((l.take k).length = k) := len_take_of hk
      have hk2 : k ≤ c := by omega
      have hkz : (0 : Int) ≤ (k : Int) := by omega
      have hkl : (k : Int) < (l.length : Int) := by omega
      clear hx
      by_cases hin : InR x 0 ((n : Int) - 1)
      · have HI := Lib.hid hin
        clear hin
        by_cases hm : x ∈ l.take k
        · have HM := Lib.hid hm
          clear hm
          go_wp2_with (first | (go_at_call 26; refine (s_l1In _ _ _ _).mono ?_; rintro _ w2 (⟨hp, rfl, rfl⟩ | ⟨hp, rfl, rfl⟩); case' inr => exact absurd HI.out hp) | (go_at_call 46; refine (s_l1Has _ _ _ _ _ _ hlk.out (by omega) hAt).mono ?_; rintro _ w3 (⟨hq, rfl, hb3⟩ | ⟨hq, rfl, hb3⟩); case' inr => exact absurd HM.out hq))
          all_goals
            go_ret
            exact .inr ⟨fun h => (h.1 k _ Hx.out).2 HM.out, rfl, hgw.trans hb3⟩
        · have HM := Lib.hid hm
          clear hm
          go_wp2_with (first | (go_at_call 26; refine (s_l1In _ _ _ _).mono ?_; rintro _ w2 (⟨hp, rfl, rfl⟩ | ⟨hp, rfl, rfl⟩); case' inr => exact absurd HI.out hp) | (go_at_call 46; refine (s_l1Has _ _ _ _ _ _ hlk.out (by omega) hAt).mono ?_; rintro _ w3 (⟨hq, rfl, hb3⟩ | ⟨hq, rfl, hb3⟩); case' inl => exact absurd hq HM.out))
          all_goals
            go_roundw
            case rel => exact ⟨k + 1, by go_num, by omega, hall.out.succ Hx.out ⟨HI.out, HM.out⟩, hgw.trans hb3⟩
            case measure => simp [intOf]; omega
      · have HI := Lib.hid hin
        clear hin
        go_wp2_with (first | (go_at_call 26; refine (s_l1In _ _ _ _).mono ?_; rintro _ w2 (⟨hp, rfl, rfl⟩ | ⟨hp, rfl, rfl⟩); case' inl => exact absurd hp HI.out))
        all_goals
          go_ret
          exact .inr ⟨fun h => HI.out (h.1 k _ Hx.out).1, rfl, hgw⟩
    · have HA : Hid (∀ i x, l[i]? = some x → (0 ≤ x ∧ x ≤ (n : Int) - 1) ∧ x ∉ l.take i) := MaTo.all hall.out (by omega)
      go_wp2_with fail
      go_ret
      exact tells_of (by simp; exact ⟨fun h => ⟨HA.out, by omega⟩, fun h => by have := h.2; omega⟩) hgw
end Go.Proofs.Ytphfaeefjcdjjaa
