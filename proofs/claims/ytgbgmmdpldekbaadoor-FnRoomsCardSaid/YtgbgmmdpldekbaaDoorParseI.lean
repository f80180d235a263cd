/-
  The program's lines and numbers of a text.
-/
import Derived.Test.YtgbgmmdpldekbaaDoorShelfS
import Derived.Test.YtgbgmmdpldekbaaDoorParseN
import Derived.Test.YtgbgmmdpldekbaaDoorPieces
import Derived.Test.YtgbgmmdpldekbaaDoorBox
import Derived.Test.YtgbgmmdpldekbaaDoorTyInt
import Derived.Test.YtgbgmmdpldekbaaDoorAppend
namespace Go.Proofs.YtgbgmmdpldekbaaDoor
open Go.RowKit

/-- The library's own limit holds some number. -/
def MaxP (w : World) : Prop := ∃ m, w.cell? ⟨Tryd.laysM146_ren.g 1, 0, none⟩ = some (.int .i64 m)
theorem MaxP.of {w : World} (h : w.ShapedOpen Tryd.prog) : MaxP w := Tryd.laysM146.s1_3 w h
theorem MaxP.gw {w w' : World} (h : MaxP w) (hg : Gw w w') : MaxP w' := by
  obtain ⟨m, h⟩ := h
  exact ⟨m, by rw [hg.cells _ _ (World.block_lt_of_cell? _ _ h)]; exact h⟩
theorem rd_pieces (w : World) (l : List ByteArray) (t : TypeId) : Rd (w.alloc (.cells (l.map Value.string).toArray t)) (some ⟨w.heap.size, 0, none⟩) l := by
  intro _
  have bx := BoxR.new w (l.map Value.string).toArray t
  refine ⟨w.heap.size, 0, rfl, bx.lt, fun i x hx => ?_⟩
  intro j u hj
  match j, hj with
  | 0, hj =>
    simp only [show Flat.cells x = [Value.string x] from rfl, List.getElem?_cons_zero, Option.some.injEq] at hj
    subst hj
    simp only [show Flat.sz ByteArray = 1 from rfl, Nat.mul_one, Nat.zero_add, Nat.add_zero]
    exact bx.cell i (by simp [hx])
  | j + 1, hj => simp [show Flat.cells x = [Value.string x] from rfl] at hj
theorem i_Split (s : ByteArray) (c : UInt8) (w : World) (hs : s.size ≤ 1048576) (hm : MaxP w) :
    Calls Tryd.prog 95 #[.string s, .string ⟨#[c]⟩] w fun e w' => e = .returned (.slice (some ⟨w.heap.size, 0, none⟩) (pcs c s).length (pcs c s).length) ∧ Rd w' (some ⟨w.heap.size, 0, none⟩) (pcs c s) ∧ Gw w w' := by
  obtain ⟨m, hm⟩ := hm
  have h1 : 1 ≤ (ByteArray.mk #[c]).size := Nat.le_refl _
  have hlen := Lib.splitB_all ⟨#[c]⟩ h1 0 _ s rfl
  have := Any.strings_Split { Tryd.laysM146 with } Tryd.laysM146.i9 s ⟨#[c]⟩ m w (by omega) hm h1
  rw [← hlen, split_pcs] at this
  refine this.mono ?_
  rintro e w' ⟨rfl, rfl⟩
  exact ⟨rfl, rd_pieces _ _ _, (Gw.refl w).alloc _⟩

set_option maxHeartbeats 4000000 in
set_option maxRecDepth 20000 in
theorem i_linesOf (s : ByteArray) (w : World) (hs : s.size ≤ 1048576) (hm : MaxP w) :
    Calls Tryd.prog 80 #[.string s] w fun e w' => ∃ A d, e = .returned (.tuple #[.slice A (linesF s).1.length d, .bool (linesF s).2]) ∧ Rd w' A (linesF s).1 ∧ Gw w w' := by
  have HM := Lib.hid hm
  clear hm
  by_cases hz0 : s.size = 0
  · have he := tl_nil hz0
    have hf : Hid (linesF s = ([], true)) := by unfold Hid linesF; rw [if_pos hz0]
    clear hz0
    go_enter Tryd.func80, Tryd.ntmps80
    go_wp2_with fail
    go_ret2
    exact ⟨_, _, by rw [hf.out]; rfl, by rw [hf.out]; exact Rd.nil, by (repeat (first | with_reducible exact Gw.refl _ | with_reducible assumption | ((with_reducible refine Gw.set ?_ ?_ _); rotate_left; (focus (first | (simp; done) | (simp; omega) | omega))) | with_reducible refine Gw.alloc ?_ _ | with_reducible refine Gw.drew ?_ | with_reducible refine Gw.drewN ?_ _ | (refine Gw.trans ?_ (by with_reducible assumption))))⟩
  have hp0 : 0 < s.size := by omega
  have hne := tl_ne hp0
  have hfl := tl_full hp0
  obtain ⟨m, hm⟩ : ∃ m, Hid (s.size = m + 1) := ⟨s.size - 1, by unfold Hid; omega⟩
  have hml : m < s.size := by have := hm.out; omega
  have hx := byteAt hml
  have hlast : s.data.toList.getLast? = some s[m] := by
    rw [List.getLast?_eq_getElem?, size_data, show s.size - 1 = m by have := hm.out; omega]
    exact hx
  have hsb : IntKind.i64.wrap ((s.size : Int) - 1) = (m : Int) := by have := hm.out; rw [IntWalk.i64_in _ (by omega)]; omega
  have hi0 : (0 : Int) ≤ (m : Int) := by omega
  have hi1 : (m : Int) < (s.size : Int) := by omega
  have hi2 : (m : Int) ≤ (s.size : Int) := by omega
  by_cases hb : s[m].toNat = 10
  · have e1 : (((s[m].toNat : Nat) : Int) == 10) = true := by simp [hb]
    have hf : Hid (linesF s = (pcs 10 (s.extract 0 m), true)) := by
      unfold Hid linesF
      rw [if_neg hz0, if_pos (by rw [hlast, Option.some.injEq]; apply UInt8.toNat_inj.1; simpa using hb), show s.size - 1 = m by have := hm.out; omega]
    have hes : (s.extract 0 m).size ≤ 1048576 := by rw [ByteArray.size_extract]; omega
    clear hb hlast hx hz0
    go_enter Tryd.func80, Tryd.ntmps80
    go_wp2_with fail
    refine (i_Split (s.extract 0 m) 10 _ hes (HM.out.gw (by (repeat (first | with_reducible exact Gw.refl _ | with_reducible assumption | ((with_reducible refine Gw.set ?_ ?_ _); rotate_left; (focus (first | (simp; done) | (simp; omega) | omega))) | with_reducible refine Gw.alloc ?_ _ | with_reducible refine Gw.drew ?_ | with_reducible refine Gw.drewN ?_ _ | (refine Gw.trans ?_ (by with_reducible assumption))))))).mono ?_
    rintro _ w2 ⟨rfl, hrd, hb2⟩
    go_wp2_with fail
    go_ret2
    exact ⟨_, _, by rw [hf.out]; rfl, by rw [hf.out]; exact hrd, by (repeat (first | with_reducible exact Gw.refl _ | with_reducible assumption | ((with_reducible refine Gw.set ?_ ?_ _); rotate_left; (focus (first | (simp; done) | (simp; omega) | omega))) | with_reducible refine Gw.alloc ?_ _ | with_reducible refine Gw.drew ?_ | with_reducible refine Gw.drewN ?_ _ | (refine Gw.trans ?_ (by with_reducible assumption))))⟩
  · have e1 : (((s[m].toNat : Nat) : Int) == 10) = false := by simp; omega
    have hf : Hid (linesF s = ([], false)) := by
      unfold Hid linesF
      rw [if_neg hz0, if_neg (by rw [hlast, Option.some.injEq]; intro e; exact hb (by rw [e]; rfl))]
    clear hb hlast hx hz0
    go_enter Tryd.func80, Tryd.ntmps80
    go_wp2_with fail
    go_ret2
    exact ⟨none, 0, by rw [hf.out]; rfl, by rw [hf.out]; exact Rd.nil, by (repeat (first | with_reducible exact Gw.refl _ | with_reducible assumption | ((with_reducible refine Gw.set ?_ ?_ _); rotate_left; (focus (first | (simp; done) | (simp; omega) | omega))) | with_reducible refine Gw.alloc ?_ _ | with_reducible refine Gw.drew ?_ | with_reducible refine Gw.drewN ?_ _ | (refine Gw.trans ?_ (by with_reducible assumption))))⟩

theorem pcs_get {c : UInt8} {s x : ByteArray} {k : Nat} (h : (pcs c s)[k]? = some x) : (pieces c s.data.toList)[k]? = some x.data.toList := by
  unfold pcs at h
  rw [List.getElem?_map, Option.map_eq_some_iff] at h
  obtain ⟨p, hp, rfl⟩ := h
  exact hp
theorem pcs_short {c : UInt8} {s x : ByteArray} (h : x ∈ pcs c s) : x.size ≤ s.size := by
  unfold pcs at h
  obtain ⟨p, hp, rfl⟩ := List.mem_map.1 h
  have := pieces_short c _ p hp
  rw [toB_size]
  simpa using this
theorem nat_take {l : List (List UInt8)} {k : Nat} {p : List UInt8} (h : l[k]? = some p) : (l.take (k + 1)).map (fun p => (natF p).1) = (l.take k).map (fun p => (natF p).1) ++ [(natF p).1] := by
  rw [List.take_add_one, h, Option.toList_some, List.map_append]
  rfl

set_option maxHeartbeats 4000000 in
set_option maxRecDepth 20000 in
theorem i_numbersIn (s : ByteArray) (n : Nat) (w : World) (hs : s.size ≤ 1048576) (hn : n ≤ 1000) (hm : MaxP w) :
    Calls Tryd.prog 81 #[.string s, .int .i64 n] w fun e w' => ∃ A d, e = .returned (.tuple #[.slice A (numsF n s).1.length d, .bool (numsF n s).2]) ∧
      w'.ownsRow w.heap.size 3 1 (.slice A (numsF n s).1.length d) (numsF n s).1.length (flat (numsF n s).1) ∧ Gw w w' := by
  obtain ⟨i0, hi, hz0, hz1, hz2⟩ := info_parts infoInt
  have HM := Lib.hid hm
  clear hm
  by_cases hl : (pcs 32 s).length = n
  case neg =>
    have hno := Lib.hid (numsF_no (n := n) (x := s) (fun h => hl h.1))
    have e1 : (((pcs 32 s).length : Int) == (n : Int)) = false := by rw [beq_eq_false_iff_ne]; omega
    clear hl
    go_enter Tryd.func81, Tryd.ntmps81
    go_wp2_with fail
    refine (i_Split s 32 _ hs (HM.out.gw (by (repeat (first | with_reducible exact Gw.refl _ | with_reducible assumption | ((with_reducible refine Gw.set ?_ ?_ _); rotate_left; (focus (first | (simp; done) | (simp; omega) | omega))) | with_reducible refine Gw.alloc ?_ _ | with_reducible refine Gw.drew ?_ | with_reducible refine Gw.drewN ?_ _ | (refine Gw.trans ?_ (by with_reducible assumption))))))).mono ?_
    rintro _ w2 ⟨rfl, hrd, hb2⟩
    clear hrd
    go_wp2_with fail
    go_ret2
    exact ⟨none, 0, by rw [hno.out]; rfl, by rw [hno.out]; exact World.ownsRow_nil _ _ _ _, by (repeat (first | with_reducible exact Gw.refl _ | with_reducible assumption | ((with_reducible refine Gw.set ?_ ?_ _); rotate_left; (focus (first | (simp; done) | (simp; omega) | omega))) | with_reducible refine Gw.alloc ?_ _ | with_reducible refine Gw.drew ?_ | with_reducible refine Gw.drewN ?_ _ | (refine Gw.trans ?_ (by with_reducible assumption))))⟩
  have e1 : (((pcs 32 s).length : Int) == (n : Int)) = true := by rw [beq_iff_eq]; omega
  have hpl : Hid ((pieces 32 s.data.toList).length = n) := by
    unfold Hid
    rw [← hl]
    unfold pcs
    rw [List.length_map]
  have HL := Lib.hid hl
  clear hl
  go_enter Tryd.func81, Tryd.ntmps81
  go_wp2_with fail
  refine (i_Split s 32 _ hs (HM.out.gw (by (repeat (first | with_reducible exact Gw.refl _ | with_reducible assumption | ((with_reducible refine Gw.set ?_ ?_ _); rotate_left; (focus (first | (simp; done) | (simp; omega) | omega))) | with_reducible refine Gw.alloc ?_ _ | with_reducible refine Gw.drew ?_ | with_reducible refine Gw.drewN ?_ _ | (refine Gw.trans ?_ (by with_reducible assumption))))))).mono ?_
  rw [HL.out]
  rintro _ w2 ⟨rfl, hrd, hb2⟩
  have HR := Lib.hid hrd
  clear hrd e1
  have e1 : ((n : Int) == (n : Int)) = true := by simp
  have hz2' := hb2.size
  go_wp2_with fail
  go_loopw [7, 9, 10, 11, 21] (fun o _ _ _ q wr => ∃ (k : Nat) (acc : List Int) (D : Option Addr) (d : Nat), q = .int .i64 k ∧ k ≤ n ∧ o = .slice D acc.length d ∧ Hid (acc = ((pieces 32 s.data.toList).take k).map (fun p => (natF p).1)) ∧ Hid (AllTo (fun p => (natF p).2 = true) (pieces 32 s.data.toList) k) ∧ wr.ownsRow w2.heap.size 3 1 (.slice D acc.length d) acc.length (flat acc) ∧ Gw w2 wr) (fun _ _ _ _ q _ => n - (intOf q).toNat)
  case atStart => exact ⟨0, [], some ⟨w2.heap.size, 0, none⟩, 0, by go_num, Nat.zero_le _, rfl, by unfold Hid; simp, AllTo.zero, World.ownsRow_made w2 #[] 0 (Nat.le_refl _) (by simp [maxLen]) (by simp), by (repeat (first | with_reducible exact Gw.refl _ | with_reducible assumption | ((with_reducible refine Gw.set ?_ ?_ _); rotate_left; (focus (first | (simp; done) | (simp; omega) | omega))) | with_reducible refine Gw.alloc ?_ _ | with_reducible refine Gw.drew ?_ | with_reducible refine Gw.drewN ?_ _ | (refine Gw.trans ?_ (by with_reducible assumption))))⟩
  case round =>
    obtain ⟨k, acc, D, d, rfl, hk, rfl, hacc, hall, hown, hgw⟩ := hrel
    obtain ⟨wo, rfl⟩ : ∃ wo : World, wo = wr := ⟨_, rfl⟩
    have hgw0 : Gw w wo := Gw.trans hb2 hgw
    have hgz := hgw0.size
    have hal : acc.length ≤ k := by rw [hacc.out, List.length_map, List.length_take]; omega
    by_cases hlt : k < n
    · obtain ⟨x, hx⟩ := get_of_lt (show k < (pcs 32 s).length by rw [HL.out]; exact hlt)
      obtain ⟨b, off, hbo, hb, c0⟩ := (HR.out.gw hgw).getT hx
      simp only [Option.some.injEq, Addr.mk.injEq, and_true] at hbo
      obtain ⟨rfl, rfl⟩ := hbo
      rw [Nat.zero_add] at c0
      have Hp := Lib.hid (pcs_get hx)
      have hxs : x.size ≤ 1048576 := Nat.le_trans (pcs_short (mem_of_get hx)) hs
      have hkz : (k : Int) < (n : Int) := by omega
      clear hx
      obtain ⟨v, ok, hv⟩ : ∃ v ok, Hid (natF x.data.toList = (v, ok)) := ⟨_, _, rfl⟩
      have T := i_natural x wo hxs
      rw [hv.out] at T
      have HT := Lib.hid T
      clear T
      cases ok with
      | false =>
        have hno := Lib.hid (numsF_no (n := n) (x := s) (fun h => by have := h.2 _ (mem_of_get Hp.out); rw [hv.out] at this; cases this))
        go_wp2_with fail
        refine HT.out.mono ?_
        rintro _ _ ⟨rfl, rfl⟩
        go_wp2_with fail
        go_ret2
        exact ⟨none, 0, by rw [hno.out]; rfl, by rw [hno.out]; exact World.ownsRow_nil _ _ _ _, hgw0⟩
      | true =>
        have hal2 := Lib.hid (AllTo.succ hall.out Hp.out (by rw [hv.out]))
        have hnx : Hid (acc ++ [v] = ((pieces 32 s.data.toList).take (k + 1)).map (fun p => (natF p).1)) := by unfold Hid; rw [nat_take Hp.out, hv.out, ← hacc.out]
        go_wp2_with fail
        refine HT.out.mono ?_
        rintro _ _ ⟨rfl, rfl⟩
        go_wp2_with (at_builtin; go_loud (refine wpList_push (α := Int) rfl (.tmp 32) (.tmp 34) 46 rfl w2.heap.size 3 i0 _ 8 Tryd.underlying46 hi hz0 hz1 hz2 rfl (by omega) acc D d rfl wo v rfl wo.heap.size rfl rfl hown (by omega) hgw.size ?_); intro acc' A' c'' w9 hacc' hl1 hl2' hown' _ hgg)
        go_roundw
        case rel => exact ⟨k + 1, acc', A', c'', by go_num, by omega, rfl, by unfold Hid; rw [hacc'.out]; exact hnx.out, hal2, hown', hgg w2 hgw (Nat.le_refl _)⟩
        case measure => simp [intOf] <;> omega
    · obtain rfl : k = n := by omega
      have hf : Hid (numsF k s = (acc, true)) := by
        unfold Hid
        rw [numsF_yes ⟨HL.out, AllTo.all hall.out (by rw [hpl.out]; exact Nat.le_refl _)⟩, hacc.out]
        rw [List.take_of_length_le (by rw [hpl.out]; exact Nat.le_refl _)]
      go_wp2_with fail
      go_ret2
      exact ⟨D, d, by rw [hf.out]; rfl, by rw [hf.out]; exact own_lower hown hz2', hgw0⟩
end Go.Proofs.YtgbgmmdpldekbaaDoor
