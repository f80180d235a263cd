/-
  The reference's texts cut into pieces.
-/
import Derived.Test.YtgbgmmdpldekbaaDoorParseW
import Derived.Test.YtgbgmmdpldekbaaDoorAppend
namespace Go.Proofs.YtgbgmmdpldekbaaDoor
open Go.RowKit

theorem pcs_start (c : UInt8) (s : ByteArray) : pcs c s = [] ++ (pre ((s.data.toList.take 0).drop 0) (pieces c (s.data.toList.drop 0))).map toB := by
  rw [List.nil_append, List.take_zero, List.drop_zero, List.drop_zero, pre_nil (pieces_ne _ _)]
  rfl
theorem toB_cut (s : ByteArray) (f i : Nat) : toB ((s.data.toList.take i).drop f) = s.extract f i := by
  rw [← toB_self (s.extract f i), Lib.extract_data, List.drop_take]
theorem cut_sep {c : UInt8} {s : ByteArray} {acc : List ByteArray} {f i : Nat} (hi : s.data.toList[i]? = some c) (h : pcs c s = acc ++ (pre ((s.data.toList.take i).drop f) (pieces c (s.data.toList.drop i))).map toB) :
    pcs c s = (acc ++ [s.extract f i]) ++ (pre ((s.data.toList.take (i + 1)).drop (i + 1)) (pieces c (s.data.toList.drop (i + 1)))).map toB := by
  obtain ⟨hi', he⟩ := List.getElem?_eq_some_iff.1 hi
  rw [h, List.drop_eq_getElem_cons hi', he, pieces_sep]
  rw [show (s.data.toList.take (i + 1)).drop (i + 1) = [] by simp, pre_nil (pieces_ne _ _)]
  simp only [pre, List.append_nil, List.map_cons, List.append_assoc, List.cons_append, List.nil_append]
  rw [toB_cut]
theorem cut_other {c b : UInt8} {s : ByteArray} {acc : List ByteArray} {f i : Nat} (hi : s.data.toList[i]? = some b) (hb : b ≠ c) (hf : f ≤ i) (h : pcs c s = acc ++ (pre ((s.data.toList.take i).drop f) (pieces c (s.data.toList.drop i))).map toB) :
    pcs c s = acc ++ (pre ((s.data.toList.take (i + 1)).drop f) (pieces c (s.data.toList.drop (i + 1)))).map toB := by
  obtain ⟨hi', he⟩ := List.getElem?_eq_some_iff.1 hi
  rw [h, List.drop_eq_getElem_cons hi', he, pieces_other hb, pre_pre]
  congr 3
  rw [List.take_add_one, hi, Option.toList_some, List.drop_append_of_le_length (by rw [List.length_take]; omega)]
theorem cut_end {c : UInt8} {s : ByteArray} {acc : List ByteArray} {f : Nat} (h : pcs c s = acc ++ (pre ((s.data.toList.take s.size).drop f) (pieces c (s.data.toList.drop s.size))).map toB) :
    pcs c s = acc ++ [s.extract f s.size] := by
  rw [h]
  have : s.data.toList.drop s.size = [] := by rw [← size_data s]; simp
  rw [this]
  simp only [pieces, pre, List.append_nil, List.map_cons, List.map_nil]
  rw [toB_cut]

set_option maxHeartbeats 4000000 in
set_option maxRecDepth 20000 in
theorem s_l1Split (s : ByteArray) (c : UInt8) (w : World) (hs : s.size ≤ 1048576) :
    Calls Tryd.prog 84 #[.string s, .int .u8 c.toNat] w fun e w' => ∃ A d, e = .returned (.slice A (pcs c s).length d) ∧
      w'.ownsRow w.heap.size 9 1 (.slice A (pcs c s).length d) (pcs c s).length (flat (pcs c s)) ∧ Gw w w' := by
  obtain ⟨i0, hi, hz0, hz1, hz2⟩ := info_parts infoString
  have hst := Lib.hid (pcs_start c s)
  go_enter Tryd.func84, Tryd.ntmps84
  go_wp2_with fail
  go_loopw [5, 6, 7] (fun o fq q wr => ∃ (i f : Nat) (acc : List ByteArray) (D : Option Addr) (d : Nat), q = .int .i64 i ∧ fq = .int .i64 f ∧ i ≤ s.size ∧ f ≤ i ∧ acc.length ≤ i ∧ o = .slice D acc.length d ∧ Hid (pcs c s = acc ++ (pre ((s.data.toList.take i).drop f) (pieces c (s.data.toList.drop i))).map toB) ∧ wr.ownsRow w.heap.size 9 1 (.slice D acc.length d) acc.length (flat acc) ∧ Gw w wr) (fun _ _ q _ => s.size - (intOf q).toNat)
  case atStart => exact ⟨0, 0, [], none, 0, by go_num, by go_num, Nat.zero_le _, Nat.le_refl _, Nat.le_refl _, rfl, hst, World.ownsRow_nil _ _ _ _, Gw.refl _⟩
  case round =>
    obtain ⟨i, f, acc, D, d, rfl, rfl, hi1, hf, hal, rfl, hcut, hown, hgw⟩ := hrel
    obtain ⟨wo, rfl⟩ : ∃ wo : World, wo = wr := ⟨_, rfl⟩
    have hgz := hgw.size
    by_cases hlt : i < s.size
    · have Hx : Hid (s.data.toList[i]? = some s[i]) := byteAt hlt
      have hlz : (i : Int) < (s.size : Int) := by omega
      by_cases hb : s[i] = c
      · have e1 : (((s[i].toNat : Nat) : Int) == (c.toNat : Int)) = true := by rw [hb]; simp
        have hnx : Hid (pcs c s = (acc ++ [s.extract f i]) ++ (pre ((s.data.toList.take (i + 1)).drop (i + 1)) (pieces c (s.data.toList.drop (i + 1)))).map toB) := cut_sep (by rw [Hx.out, hb]) hcut.out
        clear hb
        have hfz : (0 : Int) ≤ (f : Int) := by omega
        have hfi : (f : Int) ≤ (i : Int) := by omega
        have his : (i : Int) ≤ (s.size : Int) := by omega
        go_wp2_with (at_builtin; go_loud (refine wpList_push (α := ByteArray) rfl (.tmp 19) (.tmp 24) 112 rfl w.heap.size 9 i0 _ 16 Tryd.underlying112 hi hz0 hz1 hz2 rfl (by omega) acc D d rfl wo (s.extract f i) rfl wo.heap.size rfl rfl hown (by omega) hgz ?_); intro acc' A' c'' w9 hacc' hl1 hl2' hown' _ hgg)
        go_roundw
        case rel => exact ⟨i + 1, i + 1, acc', A', c'', by go_num, by go_num, by omega, Nat.le_refl _, by omega, rfl, by unfold Hid; rw [hacc'.out]; exact hnx.out, hown', hgg _ hgw (Nat.le_refl _)⟩
        case measure => simp [intOf] <;> omega
      · have e1 : (((s[i].toNat : Nat) : Int) == (c.toNat : Int)) = false := by
          rw [beq_eq_false_iff_ne]
          exact fun e => hb (UInt8.toNat_inj.1 (by omega))
        have hnx : Hid (pcs c s = acc ++ (pre ((s.data.toList.take (i + 1)).drop f) (pieces c (s.data.toList.drop (i + 1)))).map toB) := cut_other Hx.out hb hf hcut.out
        clear hb
        go_wp2_with fail
        go_roundw
        case rel => exact ⟨i + 1, f, acc, D, d, by go_num, by go_num, by omega, by omega, by omega, rfl, hnx, hown, hgw⟩
        case measure => simp [intOf] <;> omega
    · obtain rfl : i = s.size := by omega
      have hnx := Lib.hid (cut_end hcut.out)
      have hfz : (0 : Int) ≤ (f : Int) := by omega
      have hfi : (f : Int) ≤ (s.size : Int) := by omega
      go_wp2_with (at_builtin; go_loud (refine wpList_push (α := ByteArray) rfl (.tmp 28) (.tmp 32) 112 rfl w.heap.size 9 i0 _ 16 Tryd.underlying112 hi hz0 hz1 hz2 rfl (by omega) acc D d rfl wo (s.extract f s.size) rfl wo.heap.size rfl rfl hown (by omega) hgz ?_); intro acc' A' c'' w9 hacc' hl1 hl2' hown' _ hgg)
      have he := hacc'.out.trans hnx.out.symm
      subst he
      go_ret
      exact ⟨A', c'', rfl, hown', hgg _ hgw (Nat.le_refl _)⟩
end Go.Proofs.YtgbgmmdpldekbaaDoor
