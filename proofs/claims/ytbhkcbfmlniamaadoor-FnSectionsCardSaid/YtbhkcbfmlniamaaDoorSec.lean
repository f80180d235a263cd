/-
  Sections: what is valid.
-/
import Derived.Test.YtbhkcbfmlniamaaDoorBase
import Derived.Test.YtbhkcbfmlniamaaDoorLaw
import Derived.Test.YtbhkcbfmlniamaaDoorTell
import Derived.Test.YtbhkcbfmlniamaaDoorTySection
namespace Go.Proofs.YtbhkcbfmlniamaaDoor
open Go.RowKit

abbrev Sec := ByteArray × Int × Int
theorem wf_bd {n : Int} (h : (Lit.int .i64 n).wf = true) : -9223372036854775808 ≤ n ∧ n ≤ 9223372036854775807 := by
  have h1 : IntKind.i64.min = -9223372036854775808 := by decide
  have h2 : IntKind.i64.max = 9223372036854775807 := by decide
  simp [Lit.wf, h1, h2] at h
  omega
theorem bget {s : ByteArray} {k : Nat} (h : k < s.size) : s.data.toList[k]? = some s[k] := by
  rw [List.getElem?_eq_getElem (by simpa using h)]; rfl
theorem toList_iff {a b : ByteArray} : a.toList = b.toList ↔ a = b := by
  constructor
  · intro h
    rw [ByteArray.toList_eq, ByteArray.toList_eq] at h
    cases a; cases b
    congr
    exact Array.toList_inj.1 h
  · rintro rfl; rfl
theorem beq_yes {a b : ByteArray} (h : a = b) : (a.toList == b.toList) = true := by subst h; simp
theorem beq_no {a b : ByteArray} (h : a ≠ b) : (a.toList == b.toList) = false := by
  rw [beq_eq_false_iff_ne]; exact fun e => h (toList_iff.1 e)
def NameP (s : ByteArray) : Prop := (∀ b ∈ s.data.toList, 97 ≤ b.toNat ∧ b.toNat ≤ 122) ∧ 1 ≤ s.size ∧ s.size ≤ 12
def ssum (l : List Sec) : Int := (l.map fun x => x.2.1).sum
theorem ssum_nil : ssum [] = 0 := rfl
theorem ssum_cons (x : Sec) (l : List Sec) : ssum (x :: l) = x.2.1 + ssum l := by simp [ssum]
theorem ssum_snoc (l : List Sec) (x : Sec) : ssum (l ++ [x]) = ssum l + x.2.1 := by simp [ssum]
theorem ssum_append (l m : List Sec) : ssum (l ++ m) = ssum l + ssum m := by simp [ssum]
theorem ssum_bd {l : List Sec} (h : ∀ x ∈ l, 1 ≤ x.2.1 ∧ x.2.1 ≤ 60) : l.length ≤ ssum l ∧ ssum l ≤ 60 * l.length := by
  induction l with
  | nil => simp [ssum]
  | cons x l ih =>
    have h1 := h x (List.mem_cons_self ..)
    have h2 := ih (fun y hy => h y (List.mem_cons_of_mem _ hy))
    rw [ssum_cons, List.length_cons]
    omega
abbrev SecP (x : Sec) : Prop := NameP x.1 ∧ (1 ≤ x.2.1 ∧ x.2.1 ≤ 60) ∧ 0 ≤ x.2.2 ∧ x.2.2 ≤ 100
def SecsP (l : List Sec) : Prop := (∀ x ∈ l, SecP x) ∧ (∀ (i j : Nat) (x y : Sec), j < i → l[i]? = some x → l[j]? = some y → x.1 ≠ y.1) ∧ (1 ≤ l.length ∧ l.length ≤ 10) ∧ ssum l ≤ 60
theorem SecsP.size {l : List Sec} (h : SecsP l) : ∀ x ∈ l, 1 ≤ x.2.1 ∧ x.2.1 ≤ 60 := fun x hx => (h.1 x hx).2.1
/-- The first section with a name. -/
def fnd (l : List Sec) (s : ByteArray) : Int := match l.findIdx? (fun x => x.1.toList == s.toList) with | some i => i | none => -1
theorem fnd_at {l : List Sec} {s : ByteArray} {k : Nat} {x : Sec} (hx : l[k]? = some x) (hs : x.1 = s) (hn : AllTo (fun y : Sec => s ≠ y.1) l k) : fnd l s = k := by
  have : l.findIdx? (fun x => x.1.toList == s.toList) = some k := by
    obtain ⟨hk, rfl⟩ := List.getElem?_eq_some_iff.1 hx
    rw [List.findIdx?_eq_some_iff_getElem]
    refine ⟨hk, by simp [hs], fun j hj => ?_⟩
    have := hn j _ hj (List.getElem?_eq_getElem (by omega))
    simp only [beq_iff_eq, toList_iff]
    exact fun e => this e.symm
  unfold fnd; rw [this]
theorem fnd_none {l : List Sec} {s : ByteArray} (hn : ∀ y ∈ l, s ≠ y.1) : fnd l s = -1 := by
  have : l.findIdx? (fun x => x.1.toList == s.toList) = none := by
    rw [List.findIdx?_eq_none_iff]
    intro y hy
    exact beq_no (fun e => hn y hy e.symm)
  unfold fnd; rw [this]
theorem fnd_self {l : List Sec} {k : Nat} {x : Sec} (hx : l[k]? = some x) : fnd l x.1 = k ↔ AllTo (fun y : Sec => x.1 ≠ y.1) l k := by
  constructor
  · intro h i y hi hy
    unfold fnd at h
    split at h
    · rename_i j hj
      obtain rfl : j = k := by omega
      rw [List.findIdx?_eq_some_iff_getElem] at hj
      obtain ⟨hk, _, hl⟩ := hj
      obtain ⟨hi', rfl⟩ := List.getElem?_eq_some_iff.1 hy
      have := hl i hi
      simp only [beq_iff_eq, toList_iff] at this
      exact fun e => this e.symm
    · omega
  · exact fun h => fnd_at hx rfl h

set_option maxHeartbeats 1000000 in
theorem s_seName (s : ByteArray) (w : World) (hs : s.size ≤ 9223372036854775807) : Calls Tryd.prog 65 #[.string s] w (TellsQ (NameP s) w) := by
  go_enter Tryd.func65, Tryd.ntmps65
  go_wp2_with fail
  go_loop [3] (fun i => ∃ k : Nat, i = .int .i64 k ∧ k ≤ s.size ∧ Hid (AllTo (fun b : UInt8 => 97 ≤ b.toNat ∧ b.toNat ≤ 122) s.data.toList k)) (fun i => s.size - (intOf i).toNat)
  case atStart => exact ⟨0, by go_num, Nat.zero_le _, AllTo.zero⟩
  case round =>
    obtain ⟨k, rfl, hk, hall⟩ := hrel
    by_cases hlt : k < s.size
    · have Hx : Hid (s.data.toList[k]? = some s[k]) := bget hlt
      go_wp2_with fail
      all_goals first
        | (go_round
           case rel => exact ⟨k + 1, by go_num, by omega, AllTo.succ hall.out Hx.out (by omega)⟩
           case measure => simp [intOf]; omega)
        | (go_ret
           exact .inr ⟨fun h => by have := h.1 _ (mem_of_get Hx.out); omega, rfl, rfl⟩)
    · have HA : Hid (∀ b ∈ s.data.toList, 97 ≤ b.toNat ∧ b.toNat ≤ 122) := AllTo.all hall.out (by have : s.data.toList.length = s.size := (by simp); omega)
      go_wp2_with (first | (go_at_call 40; refine (s_l1In _ _ _ _).mono ?_; rintro e w' (⟨hp, rfl, rfl⟩ | ⟨hp, rfl, rfl⟩)))
      · go_ret
        exact .inl ⟨⟨HA.out, by omega⟩, rfl, rfl⟩
      · go_ret
        exact .inr ⟨fun h => by have := h.2; omega, rfl, rfl⟩
set_option maxHeartbeats 1000000 in
theorem i_isName (s : ByteArray) (w : World) (hs : s.size ≤ 9223372036854775807) : Calls Tryd.prog 48 #[.string s] w (TellsQ (NameP s) w) := by
  go_enter Tryd.func48, Tryd.ntmps48
  go_wp2_with fail
  go_loop [3] (fun i => ∃ k : Nat, i = .int .i64 k ∧ k ≤ s.size ∧ Hid (AllTo (fun b : UInt8 => 97 ≤ b.toNat ∧ b.toNat ≤ 122) s.data.toList k)) (fun i => s.size - (intOf i).toNat)
  case atStart => exact ⟨0, by go_num, Nat.zero_le _, AllTo.zero⟩
  case round =>
    obtain ⟨k, rfl, hk, hall⟩ := hrel
    by_cases hlt : k < s.size
    · have Hx : Hid (s.data.toList[k]? = some s[k]) := bget hlt
      go_wp2_with fail
      all_goals first
        | (go_round
           case rel => exact ⟨k + 1, by go_num, by omega, AllTo.succ hall.out Hx.out (by omega)⟩
           case measure => simp [intOf]; omega)
        | (go_ret
           exact .inr ⟨fun h => by have := h.1 _ (mem_of_get Hx.out); omega, rfl, rfl⟩)
    · have HA : Hid (∀ b ∈ s.data.toList, 97 ≤ b.toNat ∧ b.toNat ≤ 122) := AllTo.all hall.out (by have : s.data.toList.length = s.size := (by simp); omega)
      go_wp2_with (first | (go_at_call 38; refine (i_within _ _ _ _).mono ?_; rintro e w' (⟨hp, rfl, rfl⟩ | ⟨hp, rfl, rfl⟩)))
      · go_ret
        exact .inl ⟨⟨HA.out, by omega⟩, rfl, rfl⟩
      · go_ret
        exact .inr ⟨fun h => by have := h.2; omega, rfl, rfl⟩

set_option maxHeartbeats 1000000 in
theorem s_seFind (A : Option Addr) (c : Nat) (l : List Sec) (s : ByteArray) (w : World) (hl : l.length ≤ 1048576) (hA : Rd w A l) :
    Calls Tryd.prog 66 #[.slice A l.length c, .string s] w fun e w' => e = .returned (.int .i64 (fnd l s)) ∧ Gw w w' := by
  go_enter Tryd.func66, Tryd.ntmps66
  go_wp2_with fail
  go_loopw [9] (fun i wr => ∃ k : Nat, i = .int .i64 k ∧ k ≤ l.length ∧ Hid (AllTo (fun y : Sec => s ≠ y.1) l k) ∧ Gw w wr) (fun i _ => l.length - (intOf i).toNat)
  case atStart => exact ⟨0, by go_num, Nat.zero_le _, AllTo.zero, by (repeat (first | with_reducible exact Gw.refl _ | with_reducible assumption | ((with_reducible refine Gw.set ?_ ?_ _); rotate_left; (focus (first | (simp; done) | (simp; omega) | omega))) | with_reducible refine Gw.alloc ?_ _ | with_reducible refine Gw.drew ?_ | with_reducible refine Gw.drewN ?_ _ | (refine Gw.trans ?_ (by with_reducible assumption))))⟩
  case round =>
    obtain ⟨k, rfl, hk, hall, hgw⟩ := hrel
    by_cases hlt : k < l.length
    · obtain ⟨x, hx⟩ := get_of_lt hlt
      obtain ⟨b, off, rfl, hb, c0, c1, c2⟩ := (hA.gw hgw).getS hx
      have Hx := Lib.hid hx
      clear hx
      by_cases he : x.1 = s
      · have hv : Hid (fnd l s = k) := fnd_at Hx.out he hall.out
        have e1 := beq_yes he
        have he := Lib.hid he
        go_wp2_with fail
        go_ret
        exact ⟨ret_int hv.out.symm, by (repeat (first | with_reducible exact Gw.refl _ | with_reducible assumption | ((with_reducible refine Gw.set ?_ ?_ _); rotate_left; (focus (first | (simp; done) | (simp; omega) | omega))) | with_reducible refine Gw.alloc ?_ _ | with_reducible refine Gw.drew ?_ | with_reducible refine Gw.drewN ?_ _ | (refine Gw.trans ?_ (by with_reducible assumption))))⟩
      · have e1 := beq_no he
        have he := Lib.hid he
        go_wp2_with fail
        go_roundw
        case rel => exact ⟨k + 1, by go_num, by omega, AllTo.succ hall.out Hx.out (fun e => he.out e.symm), by (repeat (first | with_reducible exact Gw.refl _ | with_reducible assumption | ((with_reducible refine Gw.set ?_ ?_ _); rotate_left; (focus (first | (simp; done) | (simp; omega) | omega))) | with_reducible refine Gw.alloc ?_ _ | with_reducible refine Gw.drew ?_ | with_reducible refine Gw.drewN ?_ _ | (refine Gw.trans ?_ (by with_reducible assumption))))⟩
        case measure => simp [intOf]; omega
    · have hv : Hid (fnd l s = -1) := fnd_none (AllTo.all hall.out (by omega))
      go_wp2_with fail
      go_ret
      exact ⟨ret_int hv.out.symm, by (repeat (first | with_reducible exact Gw.refl _ | with_reducible assumption | ((with_reducible refine Gw.set ?_ ?_ _); rotate_left; (focus (first | (simp; done) | (simp; omega) | omega))) | with_reducible refine Gw.alloc ?_ _ | with_reducible refine Gw.drew ?_ | with_reducible refine Gw.drewN ?_ _ | (refine Gw.trans ?_ (by with_reducible assumption))))⟩

set_option maxHeartbeats 1000000 in
theorem s_seSum (A : Option Addr) (c n : Nat) (l : List Sec) (w : World) (hn : l.length = n) (hl : n ≤ 1048576) (hA : Rd w A l) (hP : ∀ x ∈ l, 1 ≤ x.2.1 ∧ x.2.1 ≤ 60) :
    Calls Tryd.prog 58 #[.slice A n c] w fun e w' => e = .returned (.int .i64 (ssum l)) ∧ Gw w w' := by
  have HP := Lib.hid hP
  have Hn := Lib.hid hn
  clear hP hn
  go_enter Tryd.func58, Tryd.ntmps58
  go_wp2_with fail
  go_loopw [3, 8] (fun q i wr => ∃ (k : Nat) (v : Int), i = .int .i64 k ∧ q = .int .i64 v ∧ k ≤ n ∧ 0 ≤ v ∧ v ≤ 60 * k ∧ Hid (v = ssum (l.take k)) ∧ Gw w wr) (fun _ i _ => n - (intOf i).toNat)
  case atStart => exact ⟨0, 0, by go_num, by go_num, Nat.zero_le _, by omega, by omega, by simp [Hid, ssum], by (repeat (first | with_reducible exact Gw.refl _ | with_reducible assumption | ((with_reducible refine Gw.set ?_ ?_ _); rotate_left; (focus (first | (simp; done) | (simp; omega) | omega))) | with_reducible refine Gw.alloc ?_ _ | with_reducible refine Gw.drew ?_ | with_reducible refine Gw.drewN ?_ _ | (refine Gw.trans ?_ (by with_reducible assumption))))⟩
  case round =>
    obtain ⟨k, v, rfl, rfl, hk, hv0, hv1, hv, hgw⟩ := hrel
    by_cases hlt : k < n
    · obtain ⟨x, hx⟩ := get_of_lt (l := l) (k := k) (by rw [Hn.out]; exact hlt)
      have hxp := HP.out x (mem_of_get hx)
      obtain ⟨b, off, rfl, hb, c0, c1, c2⟩ := (hA.gw hgw).getS hx
      have hvn : Hid (v + x.2.1 = ssum (l.take (k + 1))) := by unfold Hid; rw [take_succ_of hx, ssum_snoc, hv.out]
      clear hx
      go_wp2_with fail
      go_roundw
      case rel => exact ⟨k + 1, v + x.2.1, by go_num, by go_num, by omega, by omega, by omega, hvn, by (repeat (first | with_reducible exact Gw.refl _ | with_reducible assumption | ((with_reducible refine Gw.set ?_ ?_ _); rotate_left; (focus (first | (simp; done) | (simp; omega) | omega))) | with_reducible refine Gw.alloc ?_ _ | with_reducible refine Gw.drew ?_ | with_reducible refine Gw.drewN ?_ _ | (refine Gw.trans ?_ (by with_reducible assumption))))⟩
      case measure => simp [intOf]; omega
    · have hfin : Hid (v = ssum l) := by unfold Hid; rw [hv.out, List.take_of_length_le (by rw [Hn.out]; omega)]
      go_wp2_with fail
      go_ret
      exact ⟨ret_int hfin.out, by (repeat (first | with_reducible exact Gw.refl _ | with_reducible assumption | ((with_reducible refine Gw.set ?_ ?_ _); rotate_left; (focus (first | (simp; done) | (simp; omega) | omega))) | with_reducible refine Gw.alloc ?_ _ | with_reducible refine Gw.drew ?_ | with_reducible refine Gw.drewN ?_ _ | (refine Gw.trans ?_ (by with_reducible assumption))))⟩

set_option maxHeartbeats 4000000 in
theorem s_seGood (A : Option Addr) (c : Nat) (l : List Sec) (w : World) (hl : l.length ≤ 1048576) (hz : ∀ x ∈ l, x.1.size ≤ 9223372036854775807) (hA : Rd w A l) :
    Calls Tryd.prog 39 #[.slice A l.length c] w (Tells (SecsP l) w) := by
  have HZ := Lib.hid hz
  clear hz
  go_enter Tryd.func39, Tryd.ntmps39
  go_wp2_with fail
  go_loopw [7] (fun i wr => ∃ k : Nat, i = .int .i64 k ∧ k ≤ l.length ∧ Hid (AllTo SecP l k) ∧ Hid (PairTo (fun x y : Sec => x.1 ≠ y.1) l k) ∧ Gw w wr) (fun i _ => l.length - (intOf i).toNat)
  case atStart => exact ⟨0, by go_num, Nat.zero_le _, AllTo.zero, PairTo.zero, by (repeat (first | with_reducible exact Gw.refl _ | with_reducible assumption | ((with_reducible refine Gw.set ?_ ?_ _); rotate_left; (focus (first | (simp; done) | (simp; omega) | omega))) | with_reducible refine Gw.alloc ?_ _ | with_reducible refine Gw.drew ?_ | with_reducible refine Gw.drewN ?_ _ | (refine Gw.trans ?_ (by with_reducible assumption))))⟩
  case round =>
    obtain ⟨k, rfl, hk, hall, hpair, hgw⟩ := hrel
    by_cases hlt : k < l.length
    · obtain ⟨x, hx⟩ := get_of_lt hlt
      obtain ⟨x1, x2, x3⟩ := x
      have hAr := hA.gw hgw
      have hzx := HZ.out _ (mem_of_get hx)
      obtain ⟨b, off, hae, hb, c0, c1, c2⟩ := hAr.getS hx
      subst hae
      dsimp only at c0 c1 c2 hzx
      have Hx := Lib.hid hx
      clear hx
      go_wp2_with fail
      refine (s_seName _ _ hzx).mono ?_
      rintro _ w2 (⟨hp, rfl, rfl⟩ | ⟨hp, rfl, rfl⟩)
      case inr =>
        have HP := Lib.hid hp
        clear hp
        go_wp2_with fail
        go_ret
        exact .inr ⟨fun h => HP.out (h.1 _ (mem_of_get Hx.out)).1, rfl, by (repeat (first | with_reducible exact Gw.refl _ | with_reducible assumption | ((with_reducible refine Gw.set ?_ ?_ _); rotate_left; (focus (first | (simp; done) | (simp; omega) | omega))) | with_reducible refine Gw.alloc ?_ _ | with_reducible refine Gw.drew ?_ | with_reducible refine Gw.drewN ?_ _ | (refine Gw.trans ?_ (by with_reducible assumption))))⟩
      have HP := Lib.hid hp
      clear hp
      go_wp2_with fail
      refine (s_seFind _ _ l _ _ hl (hAr.gw (by (repeat (first | with_reducible exact Gw.refl _ | with_reducible assumption | ((with_reducible refine Gw.set ?_ ?_ _); rotate_left; (focus (first | (simp; done) | (simp; omega) | omega))) | with_reducible refine Gw.alloc ?_ _ | with_reducible refine Gw.drew ?_ | with_reducible refine Gw.drewN ?_ _ | (refine Gw.trans ?_ (by with_reducible assumption))))))).mono ?_
      rintro _ w3 ⟨rfl, hb3⟩
      have hc3 := hb3.cells; have hz3 := hb3.size; (try simp at hz3)
      have hzz3 : wr.heap.size < w3.heap.size := by omega
      by_cases hf : fnd l x1 = k
      case neg =>
        have e1 : (fnd l x1 == (k : Int)) = false := by simpa using hf
        have e2 : (fnd l x1 != (k : Int)) = true := by simpa using hf
        have HF := Lib.hid hf
        clear hf
        go_wp2_with fail
        go_ret
        exact .inr ⟨fun h => HF.out ((fnd_self Hx.out).2 (fun i y hi hy => h.2.1 k i _ y hi Hx.out hy)), rfl, by (repeat (first | with_reducible exact Gw.refl _ | with_reducible assumption | ((with_reducible refine Gw.set ?_ ?_ _); rotate_left; (focus (first | (simp; done) | (simp; omega) | omega))) | with_reducible refine Gw.alloc ?_ _ | with_reducible refine Gw.drew ?_ | with_reducible refine Gw.drewN ?_ _ | (refine Gw.trans ?_ (by with_reducible assumption))))⟩
      have e1 : (fnd l x1 == (k : Int)) = true := by simpa using hf
      have e2 : (fnd l x1 != (k : Int)) = false := by simpa using hf
      have HF := Lib.hid hf
      clear hf
      go_wp2_with (first | (go_at_call 40; refine (s_l1In _ _ _ _).mono ?_; rintro e w' (⟨hp, rfl, rfl⟩ | ⟨hp, rfl, rfl⟩)))
      all_goals first
        | (go_roundw
           case rel => exact ⟨k + 1, by go_num, by omega, AllTo.succ hall.out Hx.out ⟨HP.out, by dsimp only; omega⟩, PairTo.succ hpair.out Hx.out ((fnd_self Hx.out).1 HF.out), by (repeat (first | with_reducible exact Gw.refl _ | with_reducible assumption | ((with_reducible refine Gw.set ?_ ?_ _); rotate_left; (focus (first | (simp; done) | (simp; omega) | omega))) | with_reducible refine Gw.alloc ?_ _ | with_reducible refine Gw.drew ?_ | with_reducible refine Gw.drewN ?_ _ | (refine Gw.trans ?_ (by with_reducible assumption))))⟩
           case measure => simp [intOf]; omega)
        | (go_ret
           exact .inr ⟨fun h => by have := (h.1 _ (mem_of_get Hx.out)).2; dsimp only at this; omega, rfl, by (repeat (first | with_reducible exact Gw.refl _ | with_reducible assumption | ((with_reducible refine Gw.set ?_ ?_ _); rotate_left; (focus (first | (simp; done) | (simp; omega) | omega))) | with_reducible refine Gw.alloc ?_ _ | with_reducible refine Gw.drew ?_ | with_reducible refine Gw.drewN ?_ _ | (refine Gw.trans ?_ (by with_reducible assumption))))⟩)
    · have HA : Hid (∀ x ∈ l, SecP x) := AllTo.all hall.out (by omega)
      have HD : Hid (∀ (i j : Nat) (x y : Sec), j < i → l[i]? = some x → l[j]? = some y → x.1 ≠ y.1) := PairTo.all hpair.out (by omega)
      by_cases h10 : 1 ≤ l.length ∧ l.length ≤ 10
      case neg =>
        go_wp2_with fail
        refine (s_l1In _ _ _ _).mono ?_
        rintro _ _ (⟨hp, rfl, rfl⟩ | ⟨hp, rfl, rfl⟩)
        · exact absurd hp (by omega)
        go_wp2_with fail
        go_ret
        exact .inr ⟨fun h => by have := h.2.2.1; omega, rfl, by (repeat (first | with_reducible exact Gw.refl _ | with_reducible assumption | ((with_reducible refine Gw.set ?_ ?_ _); rotate_left; (focus (first | (simp; done) | (simp; omega) | omega))) | with_reducible refine Gw.alloc ?_ _ | with_reducible refine Gw.drew ?_ | with_reducible refine Gw.drewN ?_ _ | (refine Gw.trans ?_ (by with_reducible assumption))))⟩
      go_wp2_with fail
      refine (s_l1In _ _ _ _).mono ?_
      rintro _ _ (⟨hp, rfl, rfl⟩ | ⟨hp, rfl, rfl⟩)
      case inr => exact absurd h10 (by omega)
      go_wp2_with (first | (go_at_call 58; refine (s_seSum _ _ _ l _ rfl hl (hA.gw (by (repeat (first | with_reducible exact Gw.refl _ | with_reducible assumption | ((with_reducible refine Gw.set ?_ ?_ _); rotate_left; (focus (first | (simp; done) | (simp; omega) | omega))) | with_reducible refine Gw.alloc ?_ _ | with_reducible refine Gw.drew ?_ | with_reducible refine Gw.drewN ?_ _ | (refine Gw.trans ?_ (by with_reducible assumption)))))) (fun x hx => (HA.out x hx).2.1)).mono ?_; rintro e w' ⟨rfl, hb⟩; have hc := hb.cells; have hf := hb.frozens; have hz := hb.size; (try simp at hz); (try have hz0 : w.heap.size < w'.heap.size := (by omega)); (try have hz1 : w.heap.size + 1 < w'.heap.size := (by omega)); (try have hz2 : w.heap.size + 2 < w'.heap.size := (by omega)); (try have hz3 : w.heap.size + 3 < w'.heap.size := (by omega)); (try have hz4 : w.heap.size + 4 < w'.heap.size := (by omega)); (try have hz5 : w.heap.size + 5 < w'.heap.size := (by omega))))
      all_goals
        go_ret
        exact tells_of (by simp only [decide_eq_true_eq]; exact ⟨fun h' => ⟨HA.out, HD.out, h10, by omega⟩, fun h' => by have := h'.2.2.2; omega⟩) (by (repeat (first | with_reducible exact Gw.refl _ | with_reducible assumption | ((with_reducible refine Gw.set ?_ ?_ _); rotate_left; (focus (first | (simp; done) | (simp; omega) | omega))) | with_reducible refine Gw.alloc ?_ _ | with_reducible refine Gw.drew ?_ | with_reducible refine Gw.drewN ?_ _ | (refine Gw.trans ?_ (by with_reducible assumption)))))

set_option maxHeartbeats 4000000 in
theorem i_AreSections (A : Option Addr) (c : Nat) (l : List Sec) (w : World) (hl : l.length ≤ 1048576) (hz : ∀ x ∈ l, x.1.size ≤ 9223372036854775807) (hA : Rd w A l) (hlc : l.length ≤ c) :
    Calls Tryd.prog 19 #[.slice A l.length c] w (Tells (SecsP l) w) := by
  have HZ := Lib.hid hz
  clear hz
  by_cases h10 : 1 ≤ l.length ∧ l.length ≤ 10
  case neg =>
    go_enter Tryd.func19, Tryd.ntmps19
    go_wp2_with fail
    refine (i_within _ _ _ _).mono ?_
    rintro _ _ (⟨hp, rfl, rfl⟩ | ⟨hp, rfl, rfl⟩)
    · exact absurd hp (by omega)
    go_wp2_with fail
    go_ret
    exact .inr ⟨fun h => by have := h.2.2.1; omega, rfl, by (repeat (first | with_reducible exact Gw.refl _ | with_reducible assumption | ((with_reducible refine Gw.set ?_ ?_ _); rotate_left; (focus (first | (simp; done) | (simp; omega) | omega))) | with_reducible refine Gw.alloc ?_ _ | with_reducible refine Gw.drew ?_ | with_reducible refine Gw.drewN ?_ _ | (refine Gw.trans ?_ (by with_reducible assumption))))⟩
  go_enter Tryd.func19, Tryd.ntmps19
  go_wp2_with fail
  refine (i_within _ _ _ _).mono ?_
  rintro _ _ (⟨hp, rfl, rfl⟩ | ⟨hp, rfl, rfl⟩)
  case inr => exact absurd h10 (by omega)
  go_wp2_with fail
  go_loopw [3, 14] (fun q i wr => ∃ (k : Nat) (v : Int), i = .int .i64 k ∧ q = .int .i64 v ∧ k ≤ l.length ∧ 0 ≤ v ∧ v ≤ 60 * k ∧ Hid (v = ssum (l.take k)) ∧ Hid (AllTo SecP l k) ∧ Hid (PairTo (fun x y : Sec => x.1 ≠ y.1) l k) ∧ Gw w wr) (fun _ i _ => l.length - (intOf i).toNat)
  case atStart => exact ⟨0, 0, by go_num, by go_num, Nat.zero_le _, by omega, by omega, by simp [Hid, ssum], AllTo.zero, PairTo.zero, by (repeat (first | with_reducible exact Gw.refl _ | with_reducible assumption | ((with_reducible refine Gw.set ?_ ?_ _); rotate_left; (focus (first | (simp; done) | (simp; omega) | omega))) | with_reducible refine Gw.alloc ?_ _ | with_reducible refine Gw.drew ?_ | with_reducible refine Gw.drewN ?_ _ | (refine Gw.trans ?_ (by with_reducible assumption))))⟩
  case round =>
    obtain ⟨wo, rfl⟩ : ∃ wo : World, wo = wr := ⟨_, rfl⟩
    obtain ⟨k, v, rfl, rfl, hk, hv0, hv1, hv, hall, hpair, hgw⟩ := hrel
    by_cases hlt : k < l.length
    · obtain ⟨x, hx⟩ := get_of_lt hlt
      obtain ⟨x1, x2, x3⟩ := x
      have hAr := hA.gw hgw
      have hzx := HZ.out _ (mem_of_get hx)
      obtain ⟨b, off, hae, hb, c0, c1, c2⟩ := hAr.getS hx
      subst hae
      dsimp only at c0 c1 c2 hzx
      have hvn : Hid (v + x2 = ssum (l.take (k + 1))) := by unfold Hid; rw [take_succ_of hx, ssum_snoc, hv.out]
      have Hx := Lib.hid hx
      clear hx
      have hk2 : k ≤ c := by omega
      go_wp2_with fail
      refine (i_isName _ _ hzx).mono ?_
      rintro _ w2 (⟨hp, rfl, rfl⟩ | ⟨hp, rfl, rfl⟩)
      case inr =>
        have HP := Lib.hid hp
        clear hp
        go_wp2_with fail
        go_ret
        exact .inr ⟨fun h => HP.out (h.1 _ (mem_of_get Hx.out)).1, rfl, by (repeat (first | with_reducible exact Gw.refl _ | with_reducible assumption | ((with_reducible refine Gw.set ?_ ?_ _); rotate_left; (focus (first | (simp; done) | (simp; omega) | omega))) | with_reducible refine Gw.alloc ?_ _ | with_reducible refine Gw.drew ?_ | with_reducible refine Gw.drewN ?_ _ | (refine Gw.trans ?_ (by with_reducible assumption))))⟩
      have HP := Lib.hid hp
      clear hp
      go_wp2_with (first | (go_at_call 38; refine (i_within _ _ _ _).mono ?_; rintro e w' (⟨hp, rfl, rfl⟩ | ⟨hp, rfl, rfl⟩)))
      all_goals first
        | (go_ret
           exact .inr ⟨fun h => by have := (h.1 _ (mem_of_get Hx.out)).2; dsimp only at this; omega, rfl, by (repeat (first | with_reducible exact Gw.refl _ | with_reducible assumption | ((with_reducible refine Gw.set ?_ ?_ _); rotate_left; (focus (first | (simp; done) | (simp; omega) | omega))) | with_reducible refine Gw.alloc ?_ _ | with_reducible refine Gw.drew ?_ | with_reducible refine Gw.drewN ?_ _ | (refine Gw.trans ?_ (by with_reducible assumption))))⟩)
        | skip
      have hlk : (l.take k).length = k := by rw [List.length_take]; omega
      have Hlk := Lib.hid hlk
      clear hlk
      have hG1 : Gw w (wo.alloc (.cells #[.string x1, .int .i64 x2, .int .i64 x3] 34)) := by (repeat (first | with_reducible exact Gw.refl _ | with_reducible assumption | ((with_reducible refine Gw.set ?_ ?_ _); rotate_left; (focus (first | (simp; done) | (simp; omega) | omega))) | with_reducible refine Gw.alloc ?_ _ | with_reducible refine Gw.drew ?_ | with_reducible refine Gw.drewN ?_ _ | (refine Gw.trans ?_ (by with_reducible assumption))))
      go_loopw [39] (fun i wr => ∃ j : Nat, i = .int .i64 j ∧ j ≤ k ∧ Hid (AllTo (fun y : Sec => x1 ≠ y.1) l j) ∧ Gw (wo.alloc (.cells #[.string x1, .int .i64 x2, .int .i64 x3] 34)) wr) (fun i _ => k - (intOf i).toNat)
      case atStart => exact ⟨0, by go_num, Nat.zero_le _, AllTo.zero, by (repeat (first | with_reducible exact Gw.refl _ | with_reducible assumption | ((with_reducible refine Gw.set ?_ ?_ _); rotate_left; (focus (first | (simp; done) | (simp; omega) | omega))) | with_reducible refine Gw.alloc ?_ _ | with_reducible refine Gw.drew ?_ | with_reducible refine Gw.drewN ?_ _ | (refine Gw.trans ?_ (by with_reducible assumption))))⟩
      case round =>
        obtain ⟨j, rfl, hj, hdis, hgw2⟩ := hrel
        have hcr := hgw2.cells; have hzr := hgw2.size; (try simp at hzr)
        have hzr2 : wo.heap.size < wr.heap.size := by omega
        by_cases hjk : j < k
        · obtain ⟨y, hy⟩ := get_of_lt (l := l) (k := j) (by omega)
          obtain ⟨b', off', hae, hb', d0, d1, d2⟩ := hAr.getS hy
          simp only [Option.some.injEq, Addr.mk.injEq, and_true] at hae
          obtain ⟨rfl, rfl⟩ := hae
          have Hy := Lib.hid hy
          clear hy
          by_cases he : y.1 = x1
          · have e1 := beq_yes he
            have he := Lib.hid he
            go_wp2_with fail
            go_ret
            exact .inr ⟨fun h => h.2.1 k j _ y hjk Hx.out Hy.out he.out.symm, rfl, by (repeat (first | with_reducible exact Gw.refl _ | with_reducible assumption | ((with_reducible refine Gw.set ?_ ?_ _); rotate_left; (focus (first | (simp; done) | (simp; omega) | omega))) | with_reducible refine Gw.alloc ?_ _ | with_reducible refine Gw.drew ?_ | with_reducible refine Gw.drewN ?_ _ | (refine Gw.trans ?_ (by with_reducible assumption))))⟩
          · have e1 := beq_no he
            have he := Lib.hid he
            go_wp2_with fail
            go_roundw
            case rel => exact ⟨j + 1, by go_num, by omega, AllTo.succ hdis.out Hy.out (fun e => he.out e.symm), by (repeat (first | with_reducible exact Gw.refl _ | with_reducible assumption | ((with_reducible refine Gw.set ?_ ?_ _); rotate_left; (focus (first | (simp; done) | (simp; omega) | omega))) | with_reducible refine Gw.alloc ?_ _ | with_reducible refine Gw.drew ?_ | with_reducible refine Gw.drewN ?_ _ | (refine Gw.trans ?_ (by with_reducible assumption))))⟩
            case measure => simp [intOf]; omega
        · obtain rfl : j = k := by omega
          go_wp2_with fail
          go_roundw
          case rel => exact ⟨j + 1, v + x2, by go_num, by go_num, by omega, by omega, by omega, hvn, AllTo.succ hall.out Hx.out ⟨HP.out, by dsimp only; omega⟩, PairTo.succ hpair.out Hx.out hdis.out, by (repeat (first | with_reducible exact Gw.refl _ | with_reducible assumption | ((with_reducible refine Gw.set ?_ ?_ _); rotate_left; (focus (first | (simp; done) | (simp; omega) | omega))) | with_reducible refine Gw.alloc ?_ _ | with_reducible refine Gw.drew ?_ | with_reducible refine Gw.drewN ?_ _ | (refine Gw.trans ?_ (by with_reducible assumption))))⟩
          case measure => simp [intOf]; omega
    · have HA : Hid (∀ x ∈ l, SecP x) := AllTo.all hall.out (by omega)
      have HD : Hid (∀ (i j : Nat) (x y : Sec), j < i → l[i]? = some x → l[j]? = some y → x.1 ≠ y.1) := PairTo.all hpair.out (by omega)
      have HV : Hid (v = ssum l) := by unfold Hid; rw [hv.out, List.take_of_length_le (by omega)]
      go_wp2_with fail
      go_ret
      exact tells_of (by simp only [decide_eq_true_eq]; exact ⟨fun h' => ⟨HA.out, HD.out, h10, by have := HV.out; omega⟩, fun h' => by have := h'.2.2.2; have := HV.out; omega⟩) (by (repeat (first | with_reducible exact Gw.refl _ | with_reducible assumption | ((with_reducible refine Gw.set ?_ ?_ _); rotate_left; (focus (first | (simp; done) | (simp; omega) | omega))) | with_reducible refine Gw.alloc ?_ _ | with_reducible refine Gw.drew ?_ | with_reducible refine Gw.drewN ?_ _ | (refine Gw.trans ?_ (by with_reducible assumption)))))

end Go.Proofs.YtbhkcbfmlniamaaDoor
