/-
  The reference's texts cut into pieces and numbers read.
-/
import Derived.Test.YtgbgmmdpldekbaaDoorParseP
import Derived.Test.YtgbgmmdpldekbaaDoorBase
import Derived.Test.YtgbgmmdpldekbaaDoorLaw
import Derived.Test.YtgbgmmdpldekbaaDoorList
import Derived.Test.YtgbgmmdpldekbaaDoorNumS
namespace Go.Proofs.YtgbgmmdpldekbaaDoor
open Go.RowKit

instance : Flat ByteArray where
  sz := 1
  cells := fun x => [.string x]
  len := fun _ => rfl
  one := fun x u hu => by simp at hu; subst hu <;> rfl
  pos := by omega
theorem Rd.getT {w : World} {A : Option Addr} {l : List ByteArray} {k : Nat} {x : ByteArray} (h : Rd w A l) (hi : l[k]? = some x) : ∃ b off, A = some ⟨b, off, none⟩ ∧ b < w.heap.size ∧ w.cell? ⟨b, off + k, none⟩ = some (.string x) := by
  obtain ⟨b, off, hA, hb, hc⟩ := h.get hi
  have h0 := hc 0 _ rfl
  simp only [show Flat.sz ByteArray = 1 from rfl, Nat.mul_one, Nat.add_zero] at h0
  exact ⟨b, off, hA, hb, h0⟩
theorem infoString : (Tryd.prog.info? 9).map (fun i => (i.zero, i.size, i.bytes)) = some (some (.string ByteArray.empty), 1, 16) := by kernel_rfl
theorem byteAt {s : ByteArray} {k : Nat} (h : k < s.size) : s.data.toList[k]? = some s[k] := by
  rw [List.getElem?_eq_getElem (by simpa using h)]; rfl
theorem size_data (s : ByteArray) : s.data.toList.length = s.size := by simp
theorem canon_all {l : List UInt8} (h : AllTo (fun b : UInt8 => 48 ≤ b.toNat ∧ b.toNat ≤ 57) l l.length) : ∀ b ∈ l, 48 ≤ b.toNat ∧ b.toNat ≤ 57 := AllTo.all h (Nat.le_refl _)
theorem valF_take {l : List UInt8} {k : Nat} {b : UInt8} (h : l[k]? = some b) : valF (l.take (k + 1)) = 10 * valF (l.take k) + (b.toNat - 48) := by
  rw [List.take_add_one, h, Option.toList_some, valF_snoc]
theorem valF_take_lt {l : List UInt8} {k m : Nat} (h : AllTo (fun b : UInt8 => 48 ≤ b.toNat ∧ b.toNat ≤ 57) l k) (hk : k ≤ m) : valF (l.take k) < 10 ^ m := by
  have h1 := valF_lt (l.take k) (fun b hb => by
    obtain ⟨i, hi, rfl⟩ := List.getElem_of_mem hb
    rw [List.length_take] at hi
    rw [List.getElem_take]
    exact h i _ (by omega) (List.getElem?_eq_getElem (by omega)))
  have h2 : (l.take k).length ≤ k := by rw [List.length_take]; omega
  exact Nat.lt_of_lt_of_le h1 (Nat.pow_le_pow_right (by omega) (by omega))

set_option maxHeartbeats 4000000 in
set_option maxRecDepth 20000 in
theorem s_l1Read (s : ByteArray) (w : World) (hs : s.size ≤ 1048576) :
    Calls Tryd.prog 85 #[.string s] w fun e w' => e = .returned (.int .i64 (rdF s.data.toList)) ∧ w = w' := by
  have hsd := size_data s
  by_cases hc : 1 ≤ s.size ∧ s.size ≤ 6
  case neg =>
    have hno := Lib.hid (rdF_no (l := s.data.toList) (fun h => hc ⟨by have := List.length_pos_iff.2 h.1.1; omega, by omega⟩))
    clear hsd
    go_enter Tryd.func85, Tryd.ntmps85
    go_wp2_with (first | (go_at_call 68; refine (s_l1In _ _ _ _).mono ?_; rintro e w' (⟨hp, rfl, rfl⟩ | ⟨hp, rfl, rfl⟩)))
    all_goals first
      | (exfalso; omega)
      | (go_ret
         exact ⟨ret_int hno.out.symm, rfl⟩)
  have hp0 : 0 < s.size := hc.1
  have h0 := byteAt hp0
  by_cases hz : s[0].toNat = 48
  · by_cases h1 : 1 < s.size
    · have hno := Lib.hid (rdF_no (l := s.data.toList) (fun h => by
        have := h.1.2.1 (by omega)
        rw [h0] at this
        exact this (by rw [Option.some.injEq]; apply UInt8.toNat_inj.1; simpa using hz)))
      have e1 : (((s[0].toNat : Nat) : Int) == 48) = true := by simp [hz]
      have h1z : (1 : Int) < (s.size : Int) := by omega
      clear hz h0 hsd
      go_enter Tryd.func85, Tryd.ntmps85
      go_wp2_with (first | (go_at_call 68; refine (s_l1In _ _ _ _).mono ?_; rintro e w' (⟨hp, rfl, rfl⟩ | ⟨hp, rfl, rfl⟩)))
      all_goals first
        | (exfalso; omega)
        | (go_ret
           exact ⟨ret_int hno.out.symm, rfl⟩)
    · have hyes : Hid (∀ n, (∀ b ∈ s.data.toList, 48 ≤ b.toNat ∧ b.toNat ≤ 57) → n = valF s.data.toList → rdF s.data.toList = (n : Int)) := fun n hd hn => by
        rw [hn]
        exact rdF_yes ⟨⟨fun h => by rw [h] at hsd; simp at hsd; omega, fun h => by omega, hd⟩, by omega⟩
      have e1 : (((s[0].toNat : Nat) : Int) == 48) = true := by simp [hz]
      have h1z : ¬(1 : Int) < (s.size : Int) := by omega
      have Hsd := Lib.hid hsd
      clear hz h0 hsd
      go_enter Tryd.func85, Tryd.ntmps85
      go_wp2_with (first | (go_at_call 68; refine (s_l1In _ _ _ _).mono ?_; rintro e w' (⟨hp, rfl, rfl⟩ | ⟨hp, rfl, rfl⟩)))
      all_goals first | (exfalso; omega) | skip
      go_loop [3, 4] (fun n i => ∃ (k v : Nat), i = .int .i64 k ∧ n = .int .i64 v ∧ k ≤ s.size ∧ Hid (v = valF (s.data.toList.take k)) ∧ Hid (AllTo (fun b : UInt8 => 48 ≤ b.toNat ∧ b.toNat ≤ 57) s.data.toList k)) (fun _ i => s.size - (intOf i).toNat)
      case atStart => exact ⟨0, 0, by go_num, by go_num, Nat.zero_le _, rfl, AllTo.zero⟩
      case round =>
        obtain ⟨k, v, rfl, rfl, hk, hv, hall⟩ := hrel
        by_cases hlt : k < s.size
        · have Hx : Hid (s.data.toList[k]? = some s[k]) := byteAt hlt
          have hvb : v < 1000000 := by rw [hv.out]; exact valF_take_lt hall.out (m := 6) (by omega)
          by_cases hd : 48 ≤ s[k].toNat ∧ s[k].toNat ≤ 57
          · have d1 := hd.1
            have d2 := hd.2
            have w1 : IntKind.u8.wrap ((s[k].toNat : Int) - 48) = (s[k].toNat : Int) - 48 := IntWalk.u8_in _ (by omega)
            have w2 : IntKind.i64.wrap (10 * (v : Int)) = 10 * (v : Int) := IntWalk.i64_in _ (by omega)
            have w3 : IntKind.i64.wrap ((s[k].toNat : Int) - 48) = (s[k].toNat : Int) - 48 := IntWalk.i64_in _ (by omega)
            have w4 : IntKind.i64.wrap (10 * (v : Int) + ((s[k].toNat : Int) - 48)) = 10 * (v : Int) + ((s[k].toNat : Int) - 48) := IntWalk.i64_in _ (by omega)
            have hnx : Hid (10 * v + (s[k].toNat - 48) = valF (s.data.toList.take (k + 1))) := by unfold Hid; rw [valF_take Hx.out, ← hv.out]
            have hal := Lib.hid (AllTo.succ hall.out Hx.out hd)
            go_wp2_with fail
            go_round
            case rel => exact ⟨k + 1, 10 * v + (s[k].toNat - 48), by go_num, by first | go_num | (congr 1; omega), by omega, hnx, hal⟩
            case measure => simp [intOf] <;> omega
          · have hno := Lib.hid (rdF_no (l := s.data.toList) (fun h => hd (h.1.2.2 _ (mem_of_get Hx.out))))
            go_wp2_with fail
            all_goals first
              | (exfalso; omega)
              | (go_ret
                 exact ⟨ret_int hno.out.symm, rfl⟩)
        · obtain rfl : k = s.size := by omega
          have hfin := Lib.hid (hyes.out v (canon_all (by rw [Hsd.out]; exact hall.out)) (by rw [hv.out, ← Hsd.out, List.take_length]))
          go_wp2_with fail
          go_ret
          exact ⟨ret_int hfin.out.symm, rfl⟩
  · have hyes : Hid (∀ n, (∀ b ∈ s.data.toList, 48 ≤ b.toNat ∧ b.toNat ≤ 57) → n = valF s.data.toList → rdF s.data.toList = (n : Int)) := fun n hd hn => by
      rw [hn]
      exact rdF_yes ⟨⟨fun h => by rw [h] at hsd; simp at hsd; omega, fun h => by rw [h0]; intro e; rw [Option.some.injEq] at e; exact hz (by rw [e]; rfl), hd⟩, by omega⟩
    have e1 : (((s[0].toNat : Nat) : Int) == 48) = false := by simp; omega
    have Hsd := Lib.hid hsd
    clear hz h0 hsd
    go_enter Tryd.func85, Tryd.ntmps85
    go_wp2_with (first | (go_at_call 68; refine (s_l1In _ _ _ _).mono ?_; rintro e w' (⟨hp, rfl, rfl⟩ | ⟨hp, rfl, rfl⟩)))
    all_goals first | (exfalso; omega) | skip
    go_loop [3, 4] (fun n i => ∃ (k v : Nat), i = .int .i64 k ∧ n = .int .i64 v ∧ k ≤ s.size ∧ Hid (v = valF (s.data.toList.take k)) ∧ Hid (AllTo (fun b : UInt8 => 48 ≤ b.toNat ∧ b.toNat ≤ 57) s.data.toList k)) (fun _ i => s.size - (intOf i).toNat)
    case atStart => exact ⟨0, 0, by go_num, by go_num, Nat.zero_le _, rfl, AllTo.zero⟩
    case round =>
      obtain ⟨k, v, rfl, rfl, hk, hv, hall⟩ := hrel
      by_cases hlt : k < s.size
      · have Hx : Hid (s.data.toList[k]? = some s[k]) := byteAt hlt
        have hvb : v < 1000000 := by rw [hv.out]; exact valF_take_lt hall.out (m := 6) (by omega)
        by_cases hd : 48 ≤ s[k].toNat ∧ s[k].toNat ≤ 57
        · have d1 := hd.1
          have d2 := hd.2
          have w1 : IntKind.u8.wrap ((s[k].toNat : Int) - 48) = (s[k].toNat : Int) - 48 := IntWalk.u8_in _ (by omega)
          have w2 : IntKind.i64.wrap (10 * (v : Int)) = 10 * (v : Int) := IntWalk.i64_in _ (by omega)
          have w3 : IntKind.i64.wrap ((s[k].toNat : Int) - 48) = (s[k].toNat : Int) - 48 := IntWalk.i64_in _ (by omega)
          have w4 : IntKind.i64.wrap (10 * (v : Int) + ((s[k].toNat : Int) - 48)) = 10 * (v : Int) + ((s[k].toNat : Int) - 48) := IntWalk.i64_in _ (by omega)
          have hnx : Hid (10 * v + (s[k].toNat - 48) = valF (s.data.toList.take (k + 1))) := by unfold Hid; rw [valF_take Hx.out, ← hv.out]
          have hal := Lib.hid (AllTo.succ hall.out Hx.out hd)
          go_wp2_with fail
          go_round
          case rel => exact ⟨k + 1, 10 * v + (s[k].toNat - 48), by go_num, by first | go_num | (congr 1; omega), by omega, hnx, hal⟩
          case measure => simp [intOf] <;> omega
        · have hno := Lib.hid (rdF_no (l := s.data.toList) (fun h => hd (h.1.2.2 _ (mem_of_get Hx.out))))
          go_wp2_with fail
          all_goals first
            | (exfalso; omega)
            | (go_ret
               exact ⟨ret_int hno.out.symm, rfl⟩)
      · obtain rfl : k = s.size := by omega
        have hfin := Lib.hid (hyes.out v (canon_all (by rw [Hsd.out]; exact hall.out)) (by rw [hv.out, ← Hsd.out, List.take_length]))
        go_wp2_with fail
        go_ret
        exact ⟨ret_int hfin.out.symm, rfl⟩
end Go.Proofs.YtgbgmmdpldekbaaDoor
