/-
  Drawn laws of sections: what the law's own helpers tell.
-/
import Derived.Test.YtopaekijhkfhpaaSecF
import Derived.Test.YtopaekijhkfhpaaBalP
import Derived.BigRegion
namespace Go.Proofs.Ytopaekijhkfhpaa
open Go.RowKit Go.ChangeShapes

instance : Plain UInt8 where
  ks := [.int .u8]
  kslen := rfl
  ok := fun _ => True
  of := fun cs hr0 => by
    obtain ⟨_, _, rfl, ⟨x0, rfl, h0⟩, hr1⟩ := hr0.cons
    obtain rfl := hr1.nil
    have hb : 0 ≤ x0 ∧ x0 ≤ 255 := by
      simp [Lit.wf, IntKind.min, IntKind.max, IntKind.signed, IntKind.bits] at h0
      omega
    refine ⟨UInt8.ofNat x0.toNat, ?_, trivial⟩
    show [Value.int .u8 x0] = [Value.int .u8 ((UInt8.ofNat x0.toNat).toNat : Int)]
    have : ((UInt8.ofNat x0.toNat).toNat : Int) = x0 := by
      rw [UInt8.toNat_ofNat']
      omega
    rw [this]

set_option maxHeartbeats 2000000 in
theorem l_pSameSections (A B : Option Addr) (c d : Nat) (l : List Sec) (w : World) (hl : l.length ≤ 1048576) (hA : Rd w A l) (hB : Rd w B l) :
    Calls Try.prog 27 #[.slice A l.length c, .slice B l.length d] w fun e w' => e = .returned (.bool true) ∧ Gw w w' := by
  go_enter Try.func27, Try.ntmps27
  go_wp2
  go_loopw [5, 13] (fun _ i wr => ∃ k : Nat, i = .int .i64 k ∧ k ≤ l.length ∧ Gw w wr) (fun _ i _ => l.length - (intOf i).toNat)
  case atStart => exact ⟨0, by go_num, Nat.zero_le _, by (repeat (first | with_reducible exact Gw.refl _ | with_reducible assumption | ((with_reducible refine Gw.set ?_ ?_ _); rotate_left; (focus (first | (simp; done) | (simp; omega) | omega))) | with_reducible refine Gw.alloc ?_ _ | with_reducible refine Gw.drew ?_ | with_reducible refine Gw.drewN ?_ _ | (refine Gw.trans ?_ (by with_reducible assumption))))⟩
  case round =>
    obtain ⟨k, rfl, hk, hgw⟩ := hrel
    by_cases hlt : k < l.length
    · obtain ⟨x, hx⟩ := get_of_lt hlt
      obtain ⟨b, off, rfl, hb, c0, c1, c2⟩ := (hA.gw hgw).getS hx
      obtain ⟨b', off', rfl, hb', d0, d1, d2⟩ := (hB.gw hgw).getS hx
      have Hx : Hid (l[k]? = some x) := hx; clear hx
      have hkz : (0 : Int) ≤ (k : Int) := by omega
      have hkl : (k : Int) < (l.length : Int) := by omega
      go_wp2_with (first | go_region)
      all_goals
        go_roundw
        case rel => exact ⟨k + 1, by go_num, by omega, by (repeat (first | with_reducible exact Gw.refl _ | with_reducible assumption | ((with_reducible refine Gw.set ?_ ?_ _); rotate_left; (focus (first | (simp; done) | (simp; omega) | omega))) | with_reducible refine Gw.alloc ?_ _ | with_reducible refine Gw.drew ?_ | with_reducible refine Gw.drewN ?_ _ | (refine Gw.trans ?_ (by with_reducible assumption))))⟩
        case measure => simp [intOf]; omega
    · go_wp2
      go_ret
      exact ⟨rfl, by (repeat (first | with_reducible exact Gw.refl _ | with_reducible assumption | ((with_reducible refine Gw.set ?_ ?_ _); rotate_left; (focus (first | (simp; done) | (simp; omega) | omega))) | with_reducible refine Gw.alloc ?_ _ | with_reducible refine Gw.drew ?_ | with_reducible refine Gw.drewN ?_ _ | (refine Gw.trans ?_ (by with_reducible assumption))))⟩

set_option maxHeartbeats 2000000 in
theorem l_big (A B : Option Addr) (c d n m : Nat) (w : World) (hn : n ≤ 9223372036854775807) (hm : m ≤ 9223372036854775807) :
    Calls Try.prog 18 #[.slice A n c, .slice B m d] w (Tells (¬(n ≤ 1048576 ∧ m ≤ 1048576)  ∨ 1048576 - n < m) w) := by
  by_cases h1 : n ≤ 1048576
  · have hw : IntKind.i64.wrap (1048576 - (n : Int)) = 1048576 - (n : Int) := IntWalk.i64_in _ (by omega)
    have h1z : ¬(1048576 : Int) < (n : Int) := by omega
    by_cases h2 : m ≤ 1048576 - n
    · have h2z : ¬1048576 - (n : Int) < (m : Int) := by omega
      go_enter Try.func18, Try.ntmps18
      go_wp2_with fail
      all_goals
        go_ret
        exact .inr ⟨by omega, by first | rfl | (simp; omega), by (repeat (first | with_reducible exact Gw.refl _ | with_reducible assumption | ((with_reducible refine Gw.set ?_ ?_ _); rotate_left; (focus (first | (simp; done) | (simp; omega) | omega))) | with_reducible refine Gw.alloc ?_ _ | with_reducible refine Gw.drew ?_ | with_reducible refine Gw.drewN ?_ _ | (refine Gw.trans ?_ (by with_reducible assumption))))⟩
    · have h2z : 1048576 - (n : Int) < (m : Int) := by omega
      go_enter Try.func18, Try.ntmps18
      go_wp2_with fail
      all_goals
        go_ret
        exact .inl ⟨by omega, by first | rfl | (simp; omega), by (repeat (first | with_reducible exact Gw.refl _ | with_reducible assumption | ((with_reducible refine Gw.set ?_ ?_ _); rotate_left; (focus (first | (simp; done) | (simp; omega) | omega))) | with_reducible refine Gw.alloc ?_ _ | with_reducible refine Gw.drew ?_ | with_reducible refine Gw.drewN ?_ _ | (refine Gw.trans ?_ (by with_reducible assumption))))⟩
  · have h1z : (1048576 : Int) < (n : Int) := by omega
    go_enter Try.func18, Try.ntmps18
    go_wp2_with fail
    all_goals
      go_ret
      exact .inl ⟨by omega, by first | rfl | (simp; omega), by (repeat (first | with_reducible exact Gw.refl _ | with_reducible assumption | ((with_reducible refine Gw.set ?_ ?_ _); rotate_left; (focus (first | (simp; done) | (simp; omega) | omega))) | with_reducible refine Gw.alloc ?_ _ | with_reducible refine Gw.drew ?_ | with_reducible refine Gw.drewN ?_ _ | (refine Gw.trans ?_ (by with_reducible assumption))))⟩
theorem own_lt1 {w : World} {base : Nat} {e : TypeId} {size n c : Nat} {A : Option Addr} {xs : List Value} (h : w.ownsRow base e size (.slice A n c) n xs) : n ≤ c := own_cap2 h
end Go.Proofs.Ytopaekijhkfhpaa
