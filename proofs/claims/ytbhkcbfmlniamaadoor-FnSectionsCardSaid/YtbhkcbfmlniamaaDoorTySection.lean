/-
  Contracts of what the laws do with values of the type Section and lists of them: copies, comparisons, marks.
-/
import Derived.Test.YtbhkcbfmlniamaaDoorList
import Derived.Test.YtbhkcbfmlniamaaDoorProg
import Derived.Test.YtbhkcbfmlniamaaDoorLaw
import Derived.Laws.BytesArg
import Derived.Laws.Concat
namespace Go.Proofs.YtbhkcbfmlniamaaDoor
open Go.RowKit

theorem infoSection : (Tryd.prog.info? 34).map (fun i => (i.zero, i.size, i.bytes)) = some (some (.agg #[.string ByteArray.empty, .int .i64 0, .int .i64 0]), 3, 32) := by kernel_rfl

theorem l_toSection (a : ByteArray) (b c : Int) (w : World) :
    Calls Tryd.prog 61 #[.agg #[.string a, .int .i64 b, .int .i64 c]] w fun e w' => e = .returned (.agg #[.string a, .int .i64 b, .int .i64 c]) ∧ Gw w w' := by
  go_enter Tryd.func61, Tryd.ntmps61
  go_wp2
  exact bodyPost_ret (v := .agg #[.string a, .int .i64 b, .int .i64 c]) (by simp [results, Tryd.results61, go_sem]) rfl ⟨rfl, by (repeat (first | with_reducible exact Gw.refl _ | with_reducible assumption | ((with_reducible refine Gw.set ?_ ?_ _); rotate_left; (focus (first | (simp; done) | (simp; omega) | omega))) | with_reducible refine Gw.alloc ?_ _ | with_reducible refine Gw.drew ?_ | with_reducible refine Gw.drewN ?_ _ | (refine Gw.trans ?_ (by with_reducible assumption))))⟩

theorem l_eqSection (a : ByteArray) (b c : Int) (w : World) :
    Calls Tryd.prog 62 #[.agg #[.string a, .int .i64 b, .int .i64 c], .agg #[.string a, .int .i64 b, .int .i64 c]] w fun e w' => e = .returned (.bool true) ∧ Gw w w' := by
  go_enter Tryd.func62, Tryd.ntmps62
  go_wp2
  go_ret
  exact ⟨rfl, by (repeat (first | with_reducible exact Gw.refl _ | with_reducible assumption | ((with_reducible refine Gw.set ?_ ?_ _); rotate_left; (focus (first | (simp; done) | (simp; omega) | omega))) | with_reducible refine Gw.alloc ?_ _ | with_reducible refine Gw.drew ?_ | with_reducible refine Gw.drewN ?_ _ | (refine Gw.trans ?_ (by with_reducible assumption))))⟩

set_option maxHeartbeats 400000 in
theorem l_eqSectionS (A B : Option Addr) (c d : Nat) (l : List (ByteArray × Int × Int)) (w : World) (hl : l.length ≤ 1048576) (hA : Rd w A l) (hB : Rd w B l) :
    Calls Tryd.prog 28 #[.slice A l.length c, .slice B l.length d] w fun e w' => e = .returned (.bool true) ∧ Gw w w' := by
  go_enter Tryd.func28, Tryd.ntmps28
  go_wp2
  go_loopw [5] (fun i wr => ∃ k : Nat, i = .int .i64 k ∧ k ≤ l.length ∧ Gw w wr) (fun i _ => l.length - (intOf i).toNat)
  case atStart => exact ⟨0, by go_num, Nat.zero_le _, by (repeat (first | with_reducible exact Gw.refl _ | with_reducible assumption | ((with_reducible refine Gw.set ?_ ?_ _); rotate_left; (focus (first | (simp; done) | (simp; omega) | omega))) | with_reducible refine Gw.alloc ?_ _ | with_reducible refine Gw.drew ?_ | with_reducible refine Gw.drewN ?_ _ | (refine Gw.trans ?_ (by with_reducible assumption))))⟩
  case round =>
    obtain ⟨k, rfl, hk, hgw⟩ := hrel
    by_cases hlt : k < l.length
    · obtain ⟨x, hx⟩ := get_of_lt hlt
      obtain ⟨b, off, rfl, hb, c0, c1, c2⟩ := (hA.gw hgw).getS hx
      obtain ⟨b', off', rfl, hb', d0, d1, d2⟩ := (hB.gw hgw).getS hx
      have Hx : Hid (l[k]? = some x) := hx; clear hx
      go_wp2_with ((with_reducible refine wp_region_gw (by kernel_rfl) (by kernel_rfl) ?_); have hcq := @GwOf.cell; (repeat (go_big_quiet_step ((go_at_call 62; exact GwOf.call (l_eqSection _ _ _ _))))); refine wpQuiet_nil ?_; clear hcq; rintro w' ⟨⟨w', hb⟩, rfl⟩; (try dsimp only); have hc := hb.cells; have hf := hb.frozens; have hz := hb.size; (try simp at hz); (try have hz0 : w.heap.size < w'.heap.size := (by omega)); (try have hz1 : w.heap.size + 1 < w'.heap.size := (by omega)); (try have hz2 : w.heap.size + 2 < w'.heap.size := (by omega)); (try have hz3 : w.heap.size + 3 < w'.heap.size := (by omega)); (try have hz4 : w.heap.size + 4 < w'.heap.size := (by omega)); (try have hz5 : w.heap.size + 5 < w'.heap.size := (by omega)))
      go_roundw
      case rel => exact ⟨k + 1, by go_num, by omega, by (repeat (first | with_reducible exact Gw.refl _ | with_reducible assumption | ((with_reducible refine Gw.set ?_ ?_ _); rotate_left; (focus (first | (simp; done) | (simp; omega) | omega))) | with_reducible refine Gw.alloc ?_ _ | with_reducible refine Gw.drew ?_ | with_reducible refine Gw.drewN ?_ _ | (refine Gw.trans ?_ (by with_reducible assumption))))⟩
      case measure => simp [intOf]; omega
    · go_wp2
      go_ret
      exact ⟨rfl, by (repeat (first | with_reducible exact Gw.refl _ | with_reducible assumption | ((with_reducible refine Gw.set ?_ ?_ _); rotate_left; (focus (first | (simp; done) | (simp; omega) | omega))) | with_reducible refine Gw.alloc ?_ _ | with_reducible refine Gw.drew ?_ | with_reducible refine Gw.drewN ?_ _ | (refine Gw.trans ?_ (by with_reducible assumption))))⟩

/-- The bytes of all names. -/
def nameSum (l : List (ByteArray × Int × Int)) : Nat := (l.map fun x => x.1.size).sum
theorem nameSum_cons (x : ByteArray × Int × Int) (l : List (ByteArray × Int × Int)) : nameSum (x :: l) = x.1.size + nameSum l := by simp [nameSum]
def szRes (m : Int) (n : Nat) : Int := if m < n then -1 else m - n
theorem szRes_no {m : Int} {n : Nat} (h : m < n) : szRes m n = -1 := by unfold szRes; rw [if_pos h]
theorem szRes_yes {m : Int} {n : Nat} (h : ¬m < n) : szRes m n = m - n := by unfold szRes; rw [if_neg h]
theorem l_szSection_yes (a : ByteArray) (b c m : Int) (w : World) (ha : a.size ≤ 9223372036854775807) (hm : 0 ≤ m ∧ m ≤ 1048576) (h : a.size ≤ m) :
    Calls Tryd.prog 60 #[.agg #[.string a, .int .i64 b, .int .i64 c], .int .i64 m] w fun e w' => e = .returned (.int .i64 (m - a.size)) ∧ Gw w w' := by
  go_enter Tryd.func60, Tryd.ntmps60
  go_wp2
  go_ret
  exact ⟨ret_int (by first | rfl | omega), by (repeat (first | with_reducible exact Gw.refl _ | with_reducible assumption | ((with_reducible refine Gw.set ?_ ?_ _); rotate_left; (focus (first | (simp; done) | (simp; omega) | omega))) | with_reducible refine Gw.alloc ?_ _ | with_reducible refine Gw.drew ?_ | with_reducible refine Gw.drewN ?_ _ | (refine Gw.trans ?_ (by with_reducible assumption))))⟩
theorem l_szSection_no (a : ByteArray) (b c m : Int) (w : World) (ha : a.size ≤ 9223372036854775807) (hm : 0 ≤ m ∧ m ≤ 1048576) (h : ¬(a.size : Int) ≤ m) :
    Calls Tryd.prog 60 #[.agg #[.string a, .int .i64 b, .int .i64 c], .int .i64 m] w fun e w' => e = .returned (.int .i64 (-1)) ∧ Gw w w' := by
  go_enter Tryd.func60, Tryd.ntmps60
  go_wp2
  go_ret
  exact ⟨rfl, by (repeat (first | with_reducible exact Gw.refl _ | with_reducible assumption | ((with_reducible refine Gw.set ?_ ?_ _); rotate_left; (focus (first | (simp; done) | (simp; omega) | omega))) | with_reducible refine Gw.alloc ?_ _ | with_reducible refine Gw.drew ?_ | with_reducible refine Gw.drewN ?_ _ | (refine Gw.trans ?_ (by with_reducible assumption))))⟩
set_option maxHeartbeats 1000000 in
theorem l_szSectionS (A : Option Addr) (c : Nat) (l : List (ByteArray × Int × Int)) (m : Int) (w : World) (hn : l.length ≤ 9223372036854775807) (hok : ∀ x ∈ l, x.1.size ≤ 9223372036854775807) (hm : 0 ≤ m ∧ m ≤ 1048576) (hA : Rd w A l) :
    Calls Tryd.prog 26 #[.slice A l.length c, .int .i64 m] w fun e w' => e = .returned (.int .i64 (szRes m (l.length + nameSum l))) ∧ Gw w w' := by
  by_cases h : m < l.length
  · go_enter Tryd.func26, Tryd.ntmps26
    go_wp2
    go_ret
    exact ⟨ret_int (szRes_no (by omega)).symm, by (repeat (first | with_reducible exact Gw.refl _ | with_reducible assumption | ((with_reducible refine Gw.set ?_ ?_ _); rotate_left; (focus (first | (simp; done) | (simp; omega) | omega))) | with_reducible refine Gw.alloc ?_ _ | with_reducible refine Gw.drew ?_ | with_reducible refine Gw.drewN ?_ _ | (refine Gw.trans ?_ (by with_reducible assumption))))⟩
  · have HK : Hid (∀ x ∈ l, x.1.size ≤ 9223372036854775807) := hok
    clear hok
    go_enter Tryd.func26, Tryd.ntmps26
    go_wp2
    go_loopw [1, 5] (fun q i wr => ∃ (k : Nat) (v : Int), i = .int .i64 k ∧ q = .int .i64 v ∧ k ≤ l.length ∧ 0 ≤ v ∧ v ≤ 1048576 ∧ Hid (v - nameSum (l.drop k) = m - l.length - nameSum l) ∧ Gw w wr) (fun _ i _ => l.length - (intOf i).toNat)
    case atStart => exact ⟨0, m - l.length, by go_num, by go_num, Nat.zero_le _, by omega, by omega, by simp [Hid], by (repeat (first | with_reducible exact Gw.refl _ | with_reducible assumption | ((with_reducible refine Gw.set ?_ ?_ _); rotate_left; (focus (first | (simp; done) | (simp; omega) | omega))) | with_reducible refine Gw.alloc ?_ _ | with_reducible refine Gw.drew ?_ | with_reducible refine Gw.drewN ?_ _ | (refine Gw.trans ?_ (by with_reducible assumption))))⟩
    case round =>
      obtain ⟨k, v, rfl, rfl, hk, hv0, hv1, hv, hgw⟩ := hrel
      by_cases hlt : k < l.length
      · obtain ⟨x, hx⟩ := get_of_lt hlt
        have hxs := HK.out x (mem_of_get hx)
        have hdr : Hid (nameSum (l.drop k) = x.1.size + nameSum (l.drop (k + 1))) := by unfold Hid; rw [drop_of' hx, nameSum_cons]
        obtain ⟨b, off, rfl, hb, c0, c1, c2⟩ := (hA.gw hgw).getS hx
        have Hx : Hid (l[k]? = some x) := hx; clear hx
        by_cases hle : (x.1.size : Int) ≤ v
        · go_wp2_with (go_at_call 60; refine (l_szSection_yes _ _ _ _ _ (by omega) (by omega) (by omega)).mono ?_; rintro e w' ⟨rfl, hb'⟩)
          go_roundw
          case rel => exact ⟨k + 1, v - x.1.size, by go_num, by go_num, by omega, by omega, by omega, by have h1 := hv.out; have h2 := hdr.out; unfold Hid; omega, by (repeat (first | with_reducible exact Gw.refl _ | with_reducible assumption | ((with_reducible refine Gw.set ?_ ?_ _); rotate_left; (focus (first | (simp; done) | (simp; omega) | omega))) | with_reducible refine Gw.alloc ?_ _ | with_reducible refine Gw.drew ?_ | with_reducible refine Gw.drewN ?_ _ | (refine Gw.trans ?_ (by with_reducible assumption))))⟩
          case measure => simp [intOf]; omega
        · go_wp2_with (go_at_call 60; refine (l_szSection_no _ _ _ _ _ (by omega) (by omega) (by omega)).mono ?_; rintro e w' ⟨rfl, hb'⟩)
          go_ret
          exact ⟨ret_int (szRes_no (by have h1 := hv.out; have h2 := hdr.out; omega)).symm, by (repeat (first | with_reducible exact Gw.refl _ | with_reducible assumption | ((with_reducible refine Gw.set ?_ ?_ _); rotate_left; (focus (first | (simp; done) | (simp; omega) | omega))) | with_reducible refine Gw.alloc ?_ _ | with_reducible refine Gw.drew ?_ | with_reducible refine Gw.drewN ?_ _ | (refine Gw.trans ?_ (by with_reducible assumption))))⟩
      · have hd : Hid (nameSum (l.drop k) = 0) := by unfold Hid; rw [List.drop_of_length_le (by omega)]; rfl
        go_wp2
        go_ret
        exact ⟨ret_int (by have h1 := hv.out; have h2 := hd.out; rw [szRes_yes (by omega)]; omega), by (repeat (first | with_reducible exact Gw.refl _ | with_reducible assumption | ((with_reducible refine Gw.set ?_ ?_ _); rotate_left; (focus (first | (simp; done) | (simp; omega) | omega))) | with_reducible refine Gw.alloc ?_ _ | with_reducible refine Gw.drew ?_ | with_reducible refine Gw.drewN ?_ _ | (refine Gw.trans ?_ (by with_reducible assumption))))⟩

set_option maxHeartbeats 1000000 in
theorem l_toSectionS (A : Option Addr) (c : Nat) (l : List (ByteArray × Int × Int)) (w : World) (hl : l.length ≤ 1048576) (hA : Rd w A l) :
    Calls Tryd.prog 27 #[.slice A l.length c] w fun e w' => ∃ g, e = .returned (.slice (some ⟨g, 0, none⟩) l.length l.length) ∧ w.heap.size ≤ g ∧
      w'.ownsRow w.heap.size 34 3 (.slice (some ⟨g, 0, none⟩) l.length l.length) l.length (flat l) ∧ Gw w w' := by
  obtain ⟨i0, hi, hz0, hz1, hz2⟩ := info_parts infoSection
  go_enter Tryd.func27, Tryd.ntmps27
  go_wp2_with (at_make; refine wpList_make_full _ rfl (.tmp 6) (.tmp 6) 24 rfl w.heap.size 34 i0 _ 3 Tryd.underlying24 hi hz0 hz1 .i64 .i64 l.length l.length l.length rfl rfl rfl rfl (by rw [hz2]; omega) (by unfold maxLen; omega) (Nat.le_refl _) ?_; intro w1 hown1 hg1)
  generalize (madeCells _ _).toList = Z at hown1
  have hZ : Hid (Z.length = l.length * 3) := hown1.1
  have hlen : Hid ((flat l).length = Z.length) := by have := flat_len l; unfold Hid; rw [hZ.out, this]; rfl
  have hG : Gw w w1 := ⟨hg1.os, hg1.tape, hg1.output, hg1.size, fun k hk => hg1.block k hk (by simp)⟩
  clear hi hz0 hz1 hz2 hg1
  go_loopw [4] (fun i wr => ∃ k : Nat, i = .int .i64 k ∧ k ≤ l.length ∧ wr.ownsRow w.heap.size 34 3 (.slice (some ⟨w.heap.size, 0, none⟩) l.length l.length) l.length (mix (flat l) Z (k * 3)) ∧ Gw w wr) (fun i _ => l.length - (intOf i).toNat)
  case atStart => exact ⟨0, by go_num, Nat.zero_le _, by rw [show 0 * 3 = 0 from rfl, mix_zero]; exact hown1, hG⟩
  case round =>
    obtain ⟨k, rfl, hk, hown, hgw⟩ := hrel
    clear hown1 hG
    by_cases hlt : k < l.length
    · obtain ⟨x, hx⟩ := get_of_lt hlt
      obtain ⟨b, off, rfl, hb, c0, c1, c2⟩ := (hA.gw hgw).getS hx
      have f0 : (flat l)[k * 3]? = some (.string x.1) := by have := flat_get l k 0 x _ hx rfl; simpa [show Flat.sz (ByteArray × Int × Int) = 3 from rfl] using this
      have f1 : (flat l)[k * 3 + 1]? = some (.int .i64 x.2.1) := by have := flat_get l k 1 x _ hx rfl; simpa [show Flat.sz (ByteArray × Int × Int) = 3 from rfl] using this
      have f2 : (flat l)[k * 3 + 2]? = some (.int .i64 x.2.2) := by have := flat_get l k 2 x _ hx rfl; simpa [show Flat.sz (ByteArray × Int × Int) = 3 from rfl] using this
      have F0 := f0; clear f0; have f0 : Hid ((flat l)[k * 3]? = some (.string x.1)) := F0; clear F0
      have F1 := f1; clear f1; have f1 : Hid ((flat l)[k * 3 + 1]? = some (.int .i64 x.2.1)) := F1; clear F1
      have F2 := f2; clear f2; have f2 : Hid ((flat l)[k * 3 + 2]? = some (.int .i64 x.2.2)) := F2; clear F2
      clear hx
      go_wp2_with (go_at_call 61; refine (l_toSection _ _ _ _).mono ?_; rintro e w' ⟨rfl, hb⟩; have hown2 := hown.kept (hb.by_ none) (.inr (by simp [Value.ownBlock])); obtain ⟨u0, e0⟩ := own_cell hown2 (j := k * 3) (by omega); have fz0 := World.ownsRow.frozenAt hown2 (k * 3); obtain ⟨u1, e1⟩ := own_cell hown2 (j := k * 3 + 1) (by omega); have fz1 := World.ownsRow.frozenAt hown2 (k * 3 + 1); obtain ⟨u2, e2⟩ := own_cell hown2 (j := k * 3 + 2) (by omega); have fz2 := World.ownsRow.frozenAt hown2 (k * 3 + 2))
      have r0 := own_fill (m := k * 3) hown2 hlen.out f0.out
      have r1 := own_fill (m := k * 3 + 1) r0.1 hlen.out f1.out
      have r2 := own_fill (m := k * 3 + 2) r1.1 hlen.out f2.out
      go_roundw
      case rel => exact ⟨k + 1, by go_num, by omega, by rw [show (k + 1) * 3 = k * 3 + 1 + 1 + 1 by omega]; exact r2.1, by (repeat (first | with_reducible exact Gw.refl _ | with_reducible assumption | ((with_reducible refine Gw.set ?_ ?_ _); rotate_left; (focus (first | (simp; done) | (simp; omega) | omega))) | with_reducible refine Gw.alloc ?_ _ | with_reducible refine Gw.drew ?_ | with_reducible refine Gw.drewN ?_ _ | (refine Gw.trans ?_ (by with_reducible assumption))))⟩
      case measure => simp [intOf]; omega
    · obtain rfl : k = l.length := by omega
      go_wp2
      go_ret
      have hfin := hown
      rw [mix_all hlen.out (by rw [hZ.out]; omega)] at hfin
      exact ⟨_, rfl, Nat.le_refl _, hfin, by (repeat (first | with_reducible exact Gw.refl _ | with_reducible assumption | ((with_reducible refine Gw.set ?_ ?_ _); rotate_left; (focus (first | (simp; done) | (simp; omega) | omega))) | with_reducible refine Gw.alloc ?_ _ | with_reducible refine Gw.drew ?_ | with_reducible refine Gw.drewN ?_ _ | (refine Gw.trans ?_ (by with_reducible assumption))))⟩

/-- The text of a mark. -/
def mtxtGo (k : Nat) (out : ByteArray) : ByteArray := if h : k = 0 then out else mtxtGo (k / 10) (ByteArray.mk #[UInt8.ofNat (48 + k % 10)] ++ out)
termination_by k
decreasing_by omega
def mtxt (k : Int) : ByteArray := ByteArray.mk #[109] ++ mtxtGo k.toNat ByteArray.empty
theorem mtxtGo_zero (out : ByteArray) : mtxtGo 0 out = out := by rw [mtxtGo]; simp
theorem mtxtGo_pos {k : Nat} (h : 0 < k) (out : ByteArray) : mtxtGo k out = mtxtGo (k / 10) (ByteArray.mk #[UInt8.ofNat (48 + k % 10)] ++ out) := by
  rw [mtxtGo, dif_neg (by omega)]
set_option maxHeartbeats 1000000 in
theorem l_markText (q : Int) (w : World) (hq : 1 ≤ q ∧ q ≤ 1000000000) :
    Calls Tryd.prog 63 #[.int .i64 q] w fun e w' => e = .returned (.string (mtxt q)) ∧ Gw w w' := by
  obtain ⟨k, rfl⟩ : ∃ k : Nat, q = k := ⟨q.toNat, by omega⟩
  go_enter Tryd.func63, Tryd.ntmps63
  go_wp2_with fail
  go_loopw [0, 3] (fun a o wr => ∃ (n : Nat) (out : ByteArray), a = .int .i64 n ∧ o = .string out ∧ out.size + n ≤ k ∧ Hid (mtxtGo n out = mtxtGo k ByteArray.empty) ∧ Gw w wr) (fun a _ _ => (intOf a).toNat)
  case atStart => exact ⟨k, ByteArray.empty, by go_num, rfl, by simp, rfl, by (repeat (first | with_reducible exact Gw.refl _ | with_reducible assumption | ((with_reducible refine Gw.set ?_ ?_ _); rotate_left; (focus (first | (simp; done) | (simp; omega) | omega))) | with_reducible refine Gw.alloc ?_ _ | with_reducible refine Gw.drew ?_ | with_reducible refine Gw.drewN ?_ _ | (refine Gw.trans ?_ (by with_reducible assumption))))⟩
  case round =>
    obtain ⟨n, out, rfl, rfl, hs, hm, hgw⟩ := hrel
    by_cases hn : 0 < n
    · have hcv : (convert 22 9 (.slice (some ⟨wr.heap.size, 0, none⟩) 1 1)).run Tryd.prog (wr.alloc (.cells #[.int .u8 (48 + (n : Int) % 10)] 5)) = .ok (.string (strOfNums [48 + (n : Int) % 10])) (wr.alloc (.cells #[.int .u8 (48 + (n : Int) % 10)] 5)) :=
        run_convert_bytes_arg _ _ _ Tryd.underlying22 Tryd.underlying5 _ _ _ _ [48 + (n : Int) % 10] rfl (fun i hi => by
          have hi : i < 1 := hi
          obtain rfl : i = 0 := by omega
          rw [cell_of_row _ _ _ _ _ _ (heap_alloc_new wr (.cells #[.int .u8 (48 + (n : Int) % 10)] 5))]
          rfl) _ Tryd.underlying9
      obtain ⟨d, hd⟩ : ∃ d : ByteArray, d = strOfNums [48 + (n : Int) % 10] := ⟨_, rfl⟩
      rw [← hd] at hcv
      have hds : d.size = 1 := by rw [hd, strOfNums_size]; rfl
      have hdd : Hid (ByteArray.mk #[UInt8.ofNat (48 + n % 10)] = d) := by
        have e0 : UInt8.ofNat (48 + n % 10) = UInt8.ofNat ((48 + (n : Int) % 10).toNat)   := by congr 1
        unfold Hid; rw [hd, e0]; rfl
      clear hd
      have hadd : (Op.stringOp .add d out).run Tryd.prog (wr.alloc (.cells #[.int .u8 (48 + (n : Int) % 10)] 5)) = .ok (.string (d ++ out)) (wr.alloc (.cells #[.int .u8 (48 + (n : Int) % 10)] 5)) := run_string_add_sum _ _ _ (by omega)
      have hsz : Hid ((d ++ out).size = 1 + out.size) := by unfold Hid; simp [hds]
      have hmm : Hid (mtxtGo (n / 10) (d ++ out) = mtxtGo k ByteArray.empty) := by unfold Hid; rw [← hm.out, mtxtGo_pos hn, hdd.out]
      clear hds hm
      go_wp2_with fail
      go_roundw
      case rel => exact ⟨n / 10, d ++ out, by go_num, rfl, by have := hsz.out; omega, hmm, by (repeat (first | with_reducible exact Gw.refl _ | with_reducible assumption | ((with_reducible refine Gw.set ?_ ?_ _); rotate_left; (focus (first | (simp; done) | (simp; omega) | omega))) | with_reducible refine Gw.alloc ?_ _ | with_reducible refine Gw.drew ?_ | with_reducible refine Gw.drewN ?_ _ | (refine Gw.trans ?_ (by with_reducible assumption))))⟩
      case measure => simp [intOf]; omega
    · obtain rfl : n = 0 := by omega
      have hadd : (Op.stringOp .add (ByteArray.mk #[109]) out).run Tryd.prog wr = .ok (.string (ByteArray.mk #[109] ++ out)) wr := run_string_add_sum _ _ _ (by
        have : (ByteArray.mk #[109]).size = 1 := rfl
        omega)
      have hfin : Hid (ByteArray.mk #[109] ++ out = mtxt (k : Int)) := by unfold Hid mtxt; rw [Int.toNat_natCast, ← hm.out, mtxtGo_zero]
      generalize ByteArray.mk #[109] ++ out = R at hadd hfin
      go_wp2_with fail
      go_ret
      exact ⟨congrArg (fun s => Ending.returned (.string s)) hfin.out, by (repeat (first | with_reducible exact Gw.refl _ | with_reducible assumption | ((with_reducible refine Gw.set ?_ ?_ _); rotate_left; (focus (first | (simp; done) | (simp; omega) | omega))) | with_reducible refine Gw.alloc ?_ _ | with_reducible refine Gw.drew ?_ | with_reducible refine Gw.drewN ?_ _ | (refine Gw.trans ?_ (by with_reducible assumption))))⟩
def mkS (k : Int) (n : Nat) : List (ByteArray × Int × Int) := (List.range n).map fun (i : Nat) => (mtxt (k + (i : Int) * 3), k + (i : Int) * 3 + 1, k + (i : Int) * 3 + 1 + 1)
def marksS (k : Int) (n : Nat) : List Value := flat (mkS k n)
theorem marksS_len (k : Int) (n : Nat) : (marksS k n).length = n * 3 := by unfold marksS; rw [flat_len]; simp [mkS, show Flat.sz (ByteArray × Int × Int) = 3 from rfl]
theorem mkS_get {k : Int} {n i : Nat} (h : i < n) : (mkS k n)[i]? = some (mtxt (k + (i : Int) * 3), k + (i : Int) * 3 + 1, k + (i : Int) * 3 + 1 + 1) := by simp [mkS, h]
theorem marksS_get0 {k : Int} {n i : Nat} (h : i < n) : (marksS k n)[i * 3]? = some (.string (mtxt (k + (i : Int) * 3))) := by have := flat_get (mkS k n) i 0 _ _ (mkS_get h) rfl; unfold marksS; simpa [show Flat.sz (ByteArray × Int × Int) = 3 from rfl] using this
theorem marksS_get1 {k : Int} {n i : Nat} (h : i < n) : (marksS k n)[i * 3 + 1]? = some (.int .i64 (k + (i : Int) * 3 + 1)) := by have := flat_get (mkS k n) i 1 _ _ (mkS_get h) rfl; unfold marksS; simpa [show Flat.sz (ByteArray × Int × Int) = 3 from rfl] using this
theorem marksS_get2 {k : Int} {n i : Nat} (h : i < n) : (marksS k n)[i * 3 + 2]? = some (.int .i64 (k + (i : Int) * 3 + 1 + 1)) := by have := flat_get (mkS k n) i 2 _ _ (mkS_get h) rfl; unfold marksS; simpa [show Flat.sz (ByteArray × Int × Int) = 3 from rfl] using this
set_option maxHeartbeats 1000000 in
theorem l_markSectionS (A : Option Addr) (n c base : Nat) (xs : List Value) (k0 : Int) (w : World) (hn : n ≤ 1048576) (hk0 : 1 ≤ k0 ∧ k0 ≤ 100000000) (ho : w.ownsRow base 34 3 (.slice A n c) n xs) :
    Calls Tryd.prog 29 #[.slice A n c, .int .i64 k0] w fun e w' => e = .returned (.int .i64 (k0 + (n : Int) * 3)) ∧
      w'.ownsRow base 34 3 (.slice A n c) n (marksS k0 n) ∧ w.grownBy w' (Value.slice A n c).ownBlock := by
  have hZ : Hid (xs.length = n * 3) := ho.1
  have hlen : Hid ((marksS k0 n).length = xs.length) := by unfold Hid; rw [hZ.out, marksS_len]
  go_enter Tryd.func29, Tryd.ntmps29
  go_wp2
  go_loopw [1, 5] (fun q i wr => ∃ k : Nat, i = .int .i64 k ∧ k ≤ n ∧ q = .int .i64 (k0 + (k : Int) * 3) ∧ wr.ownsRow base 34 3 (.slice A n c) n (mix (marksS k0 n) xs (k * 3)) ∧ w.grownBy wr (Value.slice A n c).ownBlock) (fun _ i _ => n - (intOf i).toNat)
  case atStart => exact ⟨0, by go_num, Nat.zero_le _, by go_num, by rw [show 0 * 3 = 0 from rfl, mix_zero]; exact ho, World.grownBy.refl w _⟩
  case round =>
    obtain ⟨k, rfl, hk, rfl, hown, hgw⟩ := hrel
    clear ho
    by_cases hlt : k < n
    · obtain ⟨g, rfl, hbg, hg⟩ := own_addr hown (by omega)
      have f0 : Hid ((marksS k0 n)[k * 3]? = some (.string (mtxt (k0 + (k : Int) * 3)))) := marksS_get0 hlt
      have f1 : Hid ((marksS k0 n)[k * 3 + 1]? = some (.int .i64 (k0 + (k : Int) * 3 + 1))) := marksS_get1 hlt
      have f2 : Hid ((marksS k0 n)[k * 3 + 2]? = some (.int .i64 (k0 + (k : Int) * 3 + 1 + 1))) := marksS_get2 hlt
      go_wp2_with (go_at_call 63; refine (l_markText _ _ (by omega)).mono ?_; rintro e w' ⟨rfl, hb⟩; have hown2 := own_gw hown hb; obtain ⟨u0, e0⟩ := own_cell hown2 (j := k * 3) (by omega); have fz0 := World.ownsRow.frozenAt hown2 (k * 3); obtain ⟨u1, e1⟩ := own_cell hown2 (j := k * 3 + 1) (by omega); have fz1 := World.ownsRow.frozenAt hown2 (k * 3 + 1); obtain ⟨u2, e2⟩ := own_cell hown2 (j := k * 3 + 2) (by omega); have fz2 := World.ownsRow.frozenAt hown2 (k * 3 + 2))
      have r0 := own_fill (m := k * 3) hown2 hlen.out f0.out
      have r1 := own_fill (m := k * 3 + 1) r0.1 hlen.out f1.out
      have r2 := own_fill (m := k * 3 + 2) r1.1 hlen.out f2.out
      have hgw' : w.grownBy w' (some g) := grownBy_trans hgw (hb.by_ _)
      have q0 := grownBy_trans hgw' r0.2
      have q1 := grownBy_trans q0 r1.2
      have q2 := grownBy_trans q1 r2.2
      go_roundw
      case rel => exact ⟨k + 1, by go_num, by omega, by go_num, by rw [show (k + 1) * 3 = k * 3 + 1 + 1 + 1 by omega]; exact r2.1, q2⟩
      case measure => simp [intOf]; omega
    · obtain rfl : k = n := by omega
      go_wp2
      go_ret
      have hfin := hown
      rw [mix_all hlen.out (by rw [hZ.out]; omega)] at hfin
      exact ⟨rfl, hfin, hgw⟩

set_option maxHeartbeats 1000000 in
theorem l_heldSectionS (A : Option Addr) (n c base : Nat) (k0 : Int) (w : World) (hn : n ≤ 1048576) (hk0 : 1 ≤ k0 ∧ k0 ≤ 100000000) (ho : w.ownsRow base 34 3 (.slice A n c) n (marksS k0 n)) :
    Calls Tryd.prog 30 #[.slice A n c, .int .i64 k0] w fun e w' => e = .returned (.int .i64 (k0 + (n : Int) * 3)) ∧ Gw w w' := by
  go_enter Tryd.func30, Tryd.ntmps30
  go_wp2
  go_loopw [1, 5] (fun q i wr => ∃ k : Nat, i = .int .i64 k ∧ k ≤ n ∧ q = .int .i64 (k0 + (k : Int) * 3) ∧ Gw w wr) (fun _ i _ => n - (intOf i).toNat)
  case atStart => exact ⟨0, by go_num, Nat.zero_le _, by go_num, by (repeat (first | with_reducible exact Gw.refl _ | with_reducible assumption | ((with_reducible refine Gw.set ?_ ?_ _); rotate_left; (focus (first | (simp; done) | (simp; omega) | omega))) | with_reducible refine Gw.alloc ?_ _ | with_reducible refine Gw.drew ?_ | with_reducible refine Gw.drewN ?_ _ | (refine Gw.trans ?_ (by with_reducible assumption))))⟩
  case round =>
    obtain ⟨k, rfl, hk, rfl, hgw⟩ := hrel
    have hor := own_gw ho hgw
    by_cases hlt : k < n
    · obtain ⟨g, rfl, hbg, hg⟩ := own_addr hor (by omega)
      have c0 : wr.cell? ⟨g, k * 3, none⟩ = some (.string (mtxt (k0 + (k : Int) * 3))) := by rw [World.ownsRow.cellAt hor _ (by omega)]; exact marksS_get0 hlt
      have c1 : wr.cell? ⟨g, k * 3 + 1, none⟩ = some (.int .i64 (k0 + (k : Int) * 3 + 1)) := by rw [World.ownsRow.cellAt hor _ (by omega)]; exact marksS_get1 hlt
      have c2 : wr.cell? ⟨g, k * 3 + 2, none⟩ = some (.int .i64 (k0 + (k : Int) * 3 + 1 + 1)) := by rw [World.ownsRow.cellAt hor _ (by omega)]; exact marksS_get2 hlt
      clear ho hor
      go_wp2_with ((with_reducible refine wp_region_gw (by kernel_rfl) (by kernel_rfl) ?_); have hcq := @GwOf.cell; (repeat (go_big_quiet_step ((go_at_call 63; exact GwOf.call (l_markText _ _ (by omega)))))); refine wpQuiet_nil ?_; clear hcq; rintro w' ⟨⟨w', hb⟩, rfl⟩; (try dsimp only); have hc := hb.cells; have hf := hb.frozens; have hz := hb.size; (try simp at hz); (try have hz0 : w.heap.size < w'.heap.size := (by omega)); (try have hz1 : w.heap.size + 1 < w'.heap.size := (by omega)); (try have hz2 : w.heap.size + 2 < w'.heap.size := (by omega)); (try have hz3 : w.heap.size + 3 < w'.heap.size := (by omega)); (try have hz4 : w.heap.size + 4 < w'.heap.size := (by omega)); (try have hz5 : w.heap.size + 5 < w'.heap.size := (by omega)))
      go_roundw
      case rel => exact ⟨k + 1, by go_num, by omega, by go_num, by (repeat (first | with_reducible exact Gw.refl _ | with_reducible assumption | ((with_reducible refine Gw.set ?_ ?_ _); rotate_left; (focus (first | (simp; done) | (simp; omega) | omega))) | with_reducible refine Gw.alloc ?_ _ | with_reducible refine Gw.drew ?_ | with_reducible refine Gw.drewN ?_ _ | (refine Gw.trans ?_ (by with_reducible assumption))))⟩
      case measure => simp [intOf]; omega
    · obtain rfl : k = n := by omega
      go_wp2
      go_ret
      exact ⟨rfl, by (repeat (first | with_reducible exact Gw.refl _ | with_reducible assumption | ((with_reducible refine Gw.set ?_ ?_ _); rotate_left; (focus (first | (simp; done) | (simp; omega) | omega))) | with_reducible refine Gw.alloc ?_ _ | with_reducible refine Gw.drew ?_ | with_reducible refine Gw.drewN ?_ _ | (refine Gw.trans ?_ (by with_reducible assumption))))⟩

end Go.Proofs.YtbhkcbfmlniamaaDoor
