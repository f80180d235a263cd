/-
  The program's numbers read.
-/
import Derived.Test.YtgbgmmdpldekbaaDoorParseW
namespace Go.Proofs.YtgbgmmdpldekbaaDoor
open Go.RowKit

theorem tl_nil {s : ByteArray} (h : s.size = 0) : s.toList = [] := by
  rw [ByteArray.toList_eq]
  exact List.length_eq_zero_iff.1 (by rw [size_data]; exact h)
theorem tl_ne {s : ByteArray} (h : 0 < s.size) : ¬s.toList = [] := by
  rw [ByteArray.toList_eq]
  intro e
  have := size_data s
  rw [e] at this
  simp at this
  omega
theorem tl_full {s : ByteArray} (h : 0 < s.size) : s.toList.isEmpty = false := by
  have := tl_ne h
  cases hs : s.toList with
  | nil => exact absurd hs this
  | cons a l => rfl

set_option maxHeartbeats 4000000 in
set_option maxRecDepth 20000 in
theorem i_natural (s : ByteArray) (w : World) (hs : s.size ≤ 1048576) :
    Calls Tryd.prog 96 #[.string s] w fun e w' => e = .returned (.tuple #[.int .i64 (natF s.data.toList).1, .bool (natF s.data.toList).2]) ∧ w = w' := by
  have hsd := size_data s
  by_cases hz0 : s.size = 0
  · have hno := Lib.hid (natF_no (l := s.data.toList) (fun h => by have := List.length_pos_iff.2 h.1.1; omega))
    have he := tl_nil hz0
    clear hsd hz0
    go_enter Tryd.func96, Tryd.ntmps96
    go_wp2_with fail
    all_goals
      go_ret2
      exact ⟨ret_ib hno.out, rfl⟩
  have hp0 : 0 < s.size := by omega
  have hne := tl_ne hp0
  have hfl := tl_full hp0
  by_cases hc : s.size ≤ 9
  case neg =>
    have hno := Lib.hid (natF_no (l := s.data.toList) (fun h => by omega))
    have h9 : (9 : Int) < (s.size : Int) := by omega
    clear hsd
    go_enter Tryd.func96, Tryd.ntmps96
    go_wp2_with fail
    all_goals first
      | (exfalso; omega)
      | (go_ret2
         exact ⟨ret_ib hno.out, rfl⟩)
  have h9 : ¬(9 : Int) < (s.size : Int) := by omega
  have h0 := byteAt hp0
  by_cases hz : s[0].toNat = 48
  · by_cases h1 : 1 < s.size
    · have hno := Lib.hid (natF_no (l := s.data.toList) (fun h => by
        have := h.1.2.1 (by omega)
        rw [h0] at this
        exact this (by rw [Option.some.injEq]; apply UInt8.toNat_inj.1; simpa using hz)))
      have e1 : (((s[0].toNat : Nat) : Int) == 48) = true := by simp [hz]
      have h1z : (1 : Int) < (s.size : Int) := by omega
      clear hz h0 hsd
      go_enter Tryd.func96, Tryd.ntmps96
      go_wp2_with fail
      all_goals first
        | (exfalso; omega)
        | (go_ret2
           exact ⟨ret_ib hno.out, rfl⟩)
    · have hyes : Hid (∀ n : Nat, (∀ b ∈ s.data.toList, 48 ≤ b.toNat ∧ b.toNat ≤ 57) → n = valF s.data.toList → natF s.data.toList = ((n : Int), true)) := fun n hd hn => by
        rw [hn]
        exact natF_yes ⟨⟨fun h => by rw [h] at hsd; simp at hsd; omega, fun h => by omega, hd⟩, by omega⟩
      have e1 : (((s[0].toNat : Nat) : Int) == 48) = true := by simp [hz]
      have h1z : ¬(1 : Int) < (s.size : Int) := by omega
      have Hsd := Lib.hid hsd
      clear hz h0 hsd
      go_enter Tryd.func96, Tryd.ntmps96
      go_wp2_with fail
      all_goals first | (exfalso; omega) | skip
      go_loop [4, 5] (fun n i => ∃ (k v : Nat), i = .int .i64 k ∧ n = .int .i64 v ∧ k ≤ s.size ∧ Hid (v = valF (s.data.toList.take k)) ∧ Hid (AllTo (fun b : UInt8 => 48 ≤ b.toNat ∧ b.toNat ≤ 57) s.data.toList k)) (fun _ i => s.size - (intOf i).toNat)
      case atStart => exact ⟨0, 0, by go_num, by go_num, Nat.zero_le _, rfl, AllTo.zero⟩
      case round =>
        obtain ⟨k, v, rfl, rfl, hk, hv, hall⟩ := hrel
        by_cases hlt : k < s.size
        · have Hx : Hid (s.data.toList[k]? = some s[k]) := byteAt hlt
          have hvb : v < 1000000000 := by rw [hv.out]; exact valF_take_lt hall.out (m := 9) (by omega)
          by_cases hd : 48 ≤ s[k].toNat ∧ s[k].toNat ≤ 57
          · have d1 := hd.1
            have d2 := hd.2
            have w1 : IntKind.u8.wrap ((s[k].toNat : Int) - 48) = (s[k].toNat : Int) - 48 := IntWalk.u8_in _ (by omega)
            have w2 : IntKind.i64.wrap (10 * (v : Int)) = 10 * (v : Int) := IntWalk.i64_in _ (by omega)
            have w3 : IntKind.i64.wrap ((s[k].toNat : Int) - 48) = (s[k].toNat : Int) - 48 := IntWalk.i64_in _ (by omega)
            have w4 : IntKind.i64.wrap (10 * (v : Int) + ((s[k].toNat : Int) - 48)) = 10 * (v : Int) + ((s[k].toNat : Int) - 48) := IntWalk.i64_in _ (by omega)
            have hnx : Hid (10 * v + (s[k].toNat - 48) = valF (s.data.toList.take (k + 1))) := by unfold Hid; rw [valF_take Hx.out, ← hv.out]
            have hal := Lib.hid (AllTo.succ hall.out Hx.out hd)
            go_wp2_with fail
            go_round
            case rel => exact ⟨k + 1, 10 * v + (s[k].toNat - 48), by go_num, by first | go_num | (congr 1; omega), by omega, hnx, hal⟩
            case measure => simp [intOf] <;> omega
          · have hno := Lib.hid (natF_no (l := s.data.toList) (fun h => hd (h.1.2.2 _ (mem_of_get Hx.out))))
            go_wp2_with fail
            all_goals first
              | (exfalso; omega)
              | (go_ret2
                 exact ⟨ret_ib hno.out, rfl⟩)
        · obtain rfl : k = s.size := by omega
          have hfin := Lib.hid (hyes.out v (canon_all (by rw [Hsd.out]; exact hall.out)) (by rw [hv.out, ← Hsd.out, List.take_length]))
          go_wp2_with fail
          go_ret2
          exact ⟨ret_ib hfin.out, rfl⟩
  · have hyes : Hid (∀ n : Nat, (∀ b ∈ s.data.toList, 48 ≤ b.toNat ∧ b.toNat ≤ 57) → n = valF s.data.toList → natF s.data.toList = ((n : Int), true)) := fun n hd hn => by
      rw [hn]
      exact natF_yes ⟨⟨fun h => by rw [h] at hsd; simp at hsd; omega, fun h => by rw [h0]; intro e; rw [Option.some.injEq] at e; exact hz (by rw [e]; rfl), hd⟩, by omega⟩
    have e1 : (((s[0].toNat : Nat) : Int) == 48) = false := by simp; omega
    have Hsd := Lib.hid hsd
    clear hz h0 hsd
    go_enter Tryd.func96, Tryd.ntmps96
    go_wp2_with fail
    all_goals first | (exfalso; omega) | skip
    all_goals
      go_loop [4, 5] (fun n i => ∃ (k v : Nat), i = .int .i64 k ∧ n = .int .i64 v ∧ k ≤ s.size ∧ Hid (v = valF (s.data.toList.take k)) ∧ Hid (AllTo (fun b : UInt8 => 48 ≤ b.toNat ∧ b.toNat ≤ 57) s.data.toList k)) (fun _ i => s.size - (intOf i).toNat)
      case atStart => exact ⟨0, 0, by go_num, by go_num, Nat.zero_le _, rfl, AllTo.zero⟩
      case round =>
        obtain ⟨k, v, rfl, rfl, hk, hv, hall⟩ := hrel
        by_cases hlt : k < s.size
        · have Hx : Hid (s.data.toList[k]? = some s[k]) := byteAt hlt
          have hvb : v < 1000000000 := by rw [hv.out]; exact valF_take_lt hall.out (m := 9) (by omega)
          by_cases hd : 48 ≤ s[k].toNat ∧ s[k].toNat ≤ 57
          · have d1 := hd.1
            have d2 := hd.2
            have w1 : IntKind.u8.wrap ((s[k].toNat : Int) - 48) = (s[k].toNat : Int) - 48 := IntWalk.u8_in _ (by omega)
            have w2 : IntKind.i64.wrap (10 * (v : Int)) = 10 * (v : Int) := IntWalk.i64_in _ (by omega)
            have w3 : IntKind.i64.wrap ((s[k].toNat : Int) - 48) = (s[k].toNat : Int) - 48 := IntWalk.i64_in _ (by omega)
            have w4 : IntKind.i64.wrap (10 * (v : Int) + ((s[k].toNat : Int) - 48)) = 10 * (v : Int) + ((s[k].toNat : Int) - 48) := IntWalk.i64_in _ (by omega)
            have hnx : Hid (10 * v + (s[k].toNat - 48) = valF (s.data.toList.take (k + 1))) := by unfold Hid; rw [valF_take Hx.out, ← hv.out]
            have hal := Lib.hid (AllTo.succ hall.out Hx.out hd)
            go_wp2_with fail
            go_round
            case rel => exact ⟨k + 1, 10 * v + (s[k].toNat - 48), by go_num, by first | go_num | (congr 1; omega), by omega, hnx, hal⟩
            case measure => simp [intOf] <;> omega
          · have hno := Lib.hid (natF_no (l := s.data.toList) (fun h => hd (h.1.2.2 _ (mem_of_get Hx.out))))
            go_wp2_with fail
            all_goals first
              | (exfalso; omega)
              | (go_ret2
                 exact ⟨ret_ib hno.out, rfl⟩)
        · obtain rfl : k = s.size := by omega
          have hfin := Lib.hid (hyes.out v (canon_all (by rw [Hsd.out]; exact hall.out)) (by rw [hv.out, ← Hsd.out, List.take_length]))
          go_wp2_with fail
          go_ret2
          exact ⟨ret_ib hfin.out, rfl⟩
end Go.Proofs.YtgbgmmdpldekbaaDoor
