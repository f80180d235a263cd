/-
  The cursor that the drawn laws take their choices from: next, pick, one, among.
-/
import Derived.Test.YthokcddabgojgaaList
import Derived.Test.YthokcddabgojgaaProg
import Derived.Laws.Bits64b
namespace Go.Proofs.Ythokcddabgojgaa
open Go.RowKit

instance : Flat UInt8 where
  sz := 1
  cells := fun x => [.int .u8 (x.toNat : Int)]
  len := fun _ => rfl
  one := fun x u hu => by simp at hu; subst hu <;> rfl
  pos := by omega
theorem Rd.getB {w : World} {A : Option Addr} {l : List UInt8} {k : Nat} {x : UInt8} (h : Rd w A l) (hi : l[k]? = some x) : ∃ b off, A = some ⟨b, off, none⟩ ∧ b < w.heap.size ∧ w.cell? ⟨b, off + k, none⟩ = some (.int .u8 (x.toNat : Int)) := by
  obtain ⟨b, off, hA, hb, hc⟩ := h.get hi
  have h0 := hc 0 _ rfl
  simp only [show Flat.sz UInt8 = 1 from rfl, Nat.mul_one, Nat.add_zero] at h0
  exact ⟨b, off, hA, hb, h0⟩

/-- Block g holds a cursor that has been asked at most m times; w0: the world in which its bytes were read. -/
def CurP (w0 w : World) (g m : Nat) : Prop :=
  Gw w0 w ∧ w0.heap.size ≤ g ∧ g < w.heap.size ∧ ∃ (A : Option Addr) (bs : List UInt8) (c q : Nat) (s : Int), w.heap[g]? = some (.cells #[.slice A bs.length c, .int .i64 q, .int .u64 s] 61 (0, 0)) ∧ Rd w0 A bs ∧ bs.length ≤ 9223372036854775807 ∧ q ≤ m ∧ 0 ≤ s ∧ s < 18446744073709551616
theorem CurP.gw {w0 w : World} {g m : Nat} (h : CurP w0 w g m) : Gw w0 w := h.1
theorem CurP.lt {w0 w : World} {g m : Nat} (h : CurP w0 w g m) : g < w.heap.size := h.2.2.1
theorem CurP.mono {w0 w : World} {g m m' : Nat} (h : CurP w0 w g m) (hm : m ≤ m') : CurP w0 w g m' := by
  obtain ⟨h1, h2, h3, A, bs, c, q, s, h4, h5, h6, h7, h8⟩ := h
  exact ⟨h1, h2, h3, A, bs, c, q, s, h4, h5, h6, by omega, h8⟩
theorem CurP.keep {w0 w w' : World} {g m : Nat} {row : Option Nat} (h : CurP w0 w g m) (hg : w.grownBy w' row) (hr : ∀ k, row = some k → w0.heap.size ≤ k) (hne : some g ≠ row) : CurP w0 w' g m := by
  obtain ⟨h1, h2, h3, A, bs, c, q, s, h4, h5⟩ := h
  exact ⟨h1.grown hg hr, h2, Nat.lt_of_lt_of_le h3 hg.size, A, bs, c, q, s, by rw [hg.block g h3 hne]; exact h4, h5⟩
theorem CurP.to {w0 w w' : World} {g m : Nat} (h : CurP w0 w g m) (hg : Gw w w') : CurP w0 w' g m := h.keep (hg.by_ none) (by simp) (by simp)
theorem CurP.alloc {w0 w : World} {g m : Nat} (h : CurP w0 w g m) (o : Obj) : CurP w0 (w.alloc o) g m := h.to ((Gw.refl w).alloc o)
/-- What a cursor's call leaves. -/
theorem grow_cells {w w' : World} {g : Nat} (h : w.grownBy w' (some g)) : ∀ b o, b < w.heap.size → ¬(b = g) → w'.cell? ⟨b, o, none⟩ = w.cell? ⟨b, o, none⟩ :=
  fun b o hb hne => World.cell?_of_block (a := ⟨b, o, none⟩) (h.block b hb (by simpa using hne))
theorem grow_frozen {w w' : World} {g : Nat} (h : w.grownBy w' (some g)) : ∀ b o, b < w.heap.size → ¬(b = g) → w'.frozen? ⟨b, o, none⟩ = w.frozen? ⟨b, o, none⟩ :=
  fun b o hb hne => World.frozen?_of_block (a := ⟨b, o, none⟩) (h.block b hb (by simpa using hne))
theorem gw_grow {w w' : World} (h : Gw w w') (g : Nat) : w.grownBy w' (some g) := h.by_ _

theorem blk_set {w : World} {g : Nat} {t : TypeId} {cs : Array Value} (h : w.heap[g]? = some (.cells cs t (0, 0))) (i : Nat) (u : Value) : (w.setCell ⟨g, i, none⟩ u).heap[g]? = some (.cells (cs.setIfInBounds i u) t (0, 0)) := by
  simp [World.setCell, Array.getElem?_modify, h]
theorem u64_rng (n : Int) : 0 ≤ IntKind.u64.wrap n ∧ IntKind.u64.wrap n < 18446744073709551616 := by rw [IntKind.wrap_u64]; omega
theorem byte_bd (S : Int) (h : 0 ≤ S ∧ S < 18446744073709551616) : 0 ≤ wrap64 (bits .and .u64 (S / 1099511627776) 255) ∧ wrap64 (bits .and .u64 (S / 1099511627776) 255) ≤ 255 := by
  obtain ⟨n, hn⟩ : ∃ n : Nat, S / 1099511627776 = n := ⟨(S / 1099511627776).toNat, by omega⟩
  have hn2 : n < 18446744073709551616 := by omega
  have hbn := bits_and_u64_nat n 255 hn2 (by omega)
  rw [show ((255 : Nat) : Int) = 255 from rfl] at hbn
  rw [hn, hbn]
  have : n &&& 255 ≤ 255 := Nat.and_le_right
  unfold wrap64
  omega

set_option maxHeartbeats 4000000 in
set_option maxRecDepth 100000 in
theorem s_next (w0 w : World) (g m : Nat) (hm : m ≤ 1000000000000) (hC : CurP w0 w g m) :
    Calls Try.prog 74 #[.pointer (some ⟨g, 0, none⟩)] w fun e w' => ∃ v : Int, e = .returned (.int .i64 v) ∧ (0 ≤ v ∧ v ≤ 255) ∧ CurP w0 w' g (m + 1) ∧ w.grownBy w' (some g) := by
  obtain ⟨hgw, hg0, hgl, A, bs, c, q, s, hblk, hrd, hbl, hq, hs0, hs1⟩ := hC
  have c0 : w.cell? ⟨g, 0, none⟩ = some (.slice A bs.length c) := by rw [cell_of_row _ _ _ _ _ _ hblk]; rfl
  have c1 : w.cell? ⟨g, 1, none⟩ = some (.int .i64 q) := by rw [cell_of_row _ _ _ _ _ _ hblk]; rfl
  have c2 : w.cell? ⟨g, 2, none⟩ = some (.int .u64 s) := by rw [cell_of_row _ _ _ _ _ _ hblk]; rfl
  have fz1 : w.frozen? ⟨g, 1, none⟩ = false := by simp [World.frozen?, hblk]
  have fz2 : w.frozen? ⟨g, 2, none⟩ = false := by simp [World.frozen?, hblk]
  have Hblk := Lib.hid hblk
  clear hblk
  by_cases hqn : q < bs.length
  · obtain ⟨x, hx⟩ := get_of_lt hqn
    obtain ⟨b, off, hAe, hbl0, d0⟩ := (hrd.gw hgw).getB hx
    rw [hAe] at c0
    have hAe := Lib.hid hAe
    have hd1 : decide ((q : Int) < (bs.length : Int)) = true := by simp; omega
    have hd2 : decide ((q : Int) + 1 ≤ (bs.length : Int)) = true := by simp; omega
    have hq0 : (0 : Int) ≤ (q : Int) := by omega
    have hq1 : (q : Int) < (bs.length : Int) := by omega
    have hxb : (0 : Int) ≤ (x.toNat : Int) ∧ (x.toNat : Int) ≤ 255 := by have := x.toNat_lt; omega
    clear hx
    go_enter Try.func74, Try.ntmps74
    go_wp2_with ((with_reducible refine wp_region_gw (by kernel_rfl) (by kernel_rfl) ?_); have hcq := @GwOf.cell; (repeat (go_big_quiet_step (fail))); refine wpQuiet_nil ?_; clear hcq; rintro w' ⟨⟨w', hb⟩, rfl⟩; (try dsimp only); have hc := hb.cells; have hf := hb.frozens; have hz := hb.size; (try simp at hz); (try have hz0 : w.heap.size < w'.heap.size := (by omega)); (try have hz1 : w.heap.size + 1 < w'.heap.size := (by omega)); (try have hz2 : w.heap.size + 2 < w'.heap.size := (by omega)); (try have hz3 : w.heap.size + 3 < w'.heap.size := (by omega)); (try have hz4 : w.heap.size + 4 < w'.heap.size := (by omega)); (try have hz5 : w.heap.size + 5 < w'.heap.size := (by omega)))
    obtain ⟨w1, hw1⟩ : ∃ w1 : World, w1 = w' := ⟨_, rfl⟩
    subst hw1
    have hb1 : Gw w w1 := hb
    have hg1 : g < w1.heap.size := by omega
    have hbl1 : b < w1.heap.size := by omega
    clear hb
    go_wp2_with ((with_reducible refine wp_region_gw (by kernel_rfl) (by kernel_rfl) ?_); have hcq := @GwOf.cell; (repeat (go_big_quiet_step (fail))); refine wpQuiet_nil ?_; clear hcq; rintro w' ⟨⟨w', hb⟩, rfl⟩; (try dsimp only); have hc := hb.cells; have hf := hb.frozens; have hz := hb.size; (try simp at hz); (try have hz0 : w.heap.size < w'.heap.size := (by omega)); (try have hz1 : w.heap.size + 1 < w'.heap.size := (by omega)); (try have hz2 : w.heap.size + 2 < w'.heap.size := (by omega)); (try have hz3 : w.heap.size + 3 < w'.heap.size := (by omega)); (try have hz4 : w.heap.size + 4 < w'.heap.size := (by omega)); (try have hz5 : w.heap.size + 5 < w'.heap.size := (by omega)))
    obtain ⟨w2, hw2⟩ : ∃ w2 : World, w2 = w' := ⟨_, rfl⟩
    subst hw2
    have hb2 : Gw w w2 := Gw.trans hb1 hb
    obtain ⟨S, hS⟩ : ∃ S, Hid (S = IntKind.u64.wrap (IntKind.u64.wrap (IntKind.u64.wrap (s * 6364136223846793005) + (x.toNat : Int)) + 1442695040888963407)) := ⟨_, rfl⟩
    rw [← hS.out]
    have hSr : 0 ≤ S ∧ S < 18446744073709551616 := by rw [hS.out]; exact u64_rng _
    have hblk2 := blk_set (blk_set (u := .int .i64 ((q : Int) + 1)) ((hb2.heap (by omega)).trans Hblk.out) 1) 2 (.int .u64 S)
    simp only [List.setIfInBounds_toArray, List.set_cons_succ, List.set_cons_zero] at hblk2
    have hgr : w.grownBy ((w2.setCell ⟨g, 1, none⟩ (.int .i64 ((q : Int) + 1))).setCell ⟨g, 2, none⟩ (.int .u64 S)) (some g) := by
      have h1 := gw_grow hb2 g
      refine grownBy_trans h1 (grownBy_trans (b := w2.setCell ⟨g, 1, none⟩ (.int .i64 ((q : Int) + 1))) ?_ ?_)
      · exact ⟨rfl, rfl, rfl, by simp, fun k _ hk => Below.heap_setCell _ _ _ k (fun e => hk (by rw [e]))⟩
      · exact ⟨rfl, rfl, rfl, by simp, fun k _ hk => Below.heap_setCell _ _ _ k (fun e => hk (by rw [e]))⟩
    generalize (w2.setCell ⟨g, 1, none⟩ (.int .i64 ((q : Int) + 1))).setCell ⟨g, 2, none⟩ (.int .u64 S) = w5 at *
    have e0 : w5.cell? ⟨g, 0, none⟩ = some (.slice A bs.length c) := by rw [cell_of_row _ _ _ _ _ _ hblk2]; rfl
    have e1 : w5.cell? ⟨g, 1, none⟩ = some (.int .i64 ((q : Int) + 1)) := by rw [cell_of_row _ _ _ _ _ _ hblk2]; rfl
    have e2 : w5.cell? ⟨g, 2, none⟩ = some (.int .u64 S) := by rw [cell_of_row _ _ _ _ _ _ hblk2]; rfl
    have hg5 : g < w5.heap.size := Nat.lt_of_lt_of_le hgl hgr.size
    have hcur : CurP w0 w5 g (m + 1) := ⟨hgw.grown hgr (fun k hk => by cases hk; exact hg0), hg0, hg5, A, bs, c, q + 1, S, by rw [hblk2]; simp, hrd, hbl, by omega, hSr.1, hSr.2⟩
    clear c0 c1 c2 fz1 fz2 d0 hc hf hz hb1 hg1 hbl1 hb hb2 hbl0
    rw [hAe.out] at e0
    go_wp2_with ((with_reducible refine wp_region_gw (by kernel_rfl) (by kernel_rfl) ?_); have hcq := @GwOf.cell; (repeat (go_big_quiet_step (fail))); refine wpQuiet_nil ?_; clear hcq; rintro w' ⟨⟨w', hb⟩, rfl⟩; (try dsimp only); have hc := hb.cells; have hf := hb.frozens; have hz := hb.size; (try simp at hz); (try have hz0 : w.heap.size < w'.heap.size := (by omega)); (try have hz1 : w.heap.size + 1 < w'.heap.size := (by omega)); (try have hz2 : w.heap.size + 2 < w'.heap.size := (by omega)); (try have hz3 : w.heap.size + 3 < w'.heap.size := (by omega)); (try have hz4 : w.heap.size + 4 < w'.heap.size := (by omega)); (try have hz5 : w.heap.size + 5 < w'.heap.size := (by omega)))
    go_ret
    exact ⟨(x.toNat : Int), rfl, hxb, hcur.to hb, grownBy_trans hgr (gw_grow hb g)⟩
  · have hd1 : decide ((q : Int) < (bs.length : Int)) = false := by simp; omega
    have hd2 : decide ((q : Int) + 1 ≤ (bs.length : Int)) = false := by simp; omega
    go_enter Try.func74, Try.ntmps74
    go_wp2_with ((with_reducible refine wp_region_gw (by kernel_rfl) (by kernel_rfl) ?_); have hcq := @GwOf.cell; (repeat (go_big_quiet_step (fail))); refine wpQuiet_nil ?_; clear hcq; rintro w' ⟨⟨w', hb⟩, rfl⟩; (try dsimp only); have hc := hb.cells; have hf := hb.frozens; have hz := hb.size; (try simp at hz); (try have hz0 : w.heap.size < w'.heap.size := (by omega)); (try have hz1 : w.heap.size + 1 < w'.heap.size := (by omega)); (try have hz2 : w.heap.size + 2 < w'.heap.size := (by omega)); (try have hz3 : w.heap.size + 3 < w'.heap.size := (by omega)); (try have hz4 : w.heap.size + 4 < w'.heap.size := (by omega)); (try have hz5 : w.heap.size + 5 < w'.heap.size := (by omega)))
    obtain ⟨w2, hw2⟩ : ∃ w2 : World, w2 = w' := ⟨_, rfl⟩
    subst hw2
    have hb2 : Gw w w2 := hb
    obtain ⟨S, hS⟩ : ∃ S, Hid (S = IntKind.u64.wrap (IntKind.u64.wrap (IntKind.u64.wrap (s * 6364136223846793005)) + 1442695040888963407)) := ⟨_, rfl⟩
    rw [← hS.out]
    have hSr : 0 ≤ S ∧ S < 18446744073709551616 := by rw [hS.out]; exact u64_rng _
    have hblk2 := blk_set (blk_set (u := .int .i64 ((q : Int) + 1)) ((hb2.heap (by omega)).trans Hblk.out) 1) 2 (.int .u64 S)
    simp only [List.setIfInBounds_toArray, List.set_cons_succ, List.set_cons_zero] at hblk2
    have hgr : w.grownBy ((w2.setCell ⟨g, 1, none⟩ (.int .i64 ((q : Int) + 1))).setCell ⟨g, 2, none⟩ (.int .u64 S)) (some g) := by
      have h1 := gw_grow hb2 g
      refine grownBy_trans h1 (grownBy_trans (b := w2.setCell ⟨g, 1, none⟩ (.int .i64 ((q : Int) + 1))) ?_ ?_)
      · exact ⟨rfl, rfl, rfl, by simp, fun k _ hk => Below.heap_setCell _ _ _ k (fun e => hk (by rw [e]))⟩
      · exact ⟨rfl, rfl, rfl, by simp, fun k _ hk => Below.heap_setCell _ _ _ k (fun e => hk (by rw [e]))⟩
    generalize (w2.setCell ⟨g, 1, none⟩ (.int .i64 ((q : Int) + 1))).setCell ⟨g, 2, none⟩ (.int .u64 S) = w5 at *
    have e0 : w5.cell? ⟨g, 0, none⟩ = some (.slice A bs.length c) := by rw [cell_of_row _ _ _ _ _ _ hblk2]; rfl
    have e1 : w5.cell? ⟨g, 1, none⟩ = some (.int .i64 ((q : Int) + 1)) := by rw [cell_of_row _ _ _ _ _ _ hblk2]; rfl
    have e2 : w5.cell? ⟨g, 2, none⟩ = some (.int .u64 S) := by rw [cell_of_row _ _ _ _ _ _ hblk2]; rfl
    have hg5 : g < w5.heap.size := Nat.lt_of_lt_of_le hgl hgr.size
    have hcur : CurP w0 w5 g (m + 1) := ⟨hgw.grown hgr (fun k hk => by cases hk; exact hg0), hg0, hg5, A, bs, c, q + 1, S, by rw [hblk2]; simp, hrd, hbl, by omega, hSr.1, hSr.2⟩
    clear c0 c1 c2 fz1 fz2 hc hf hz hb hb2
    go_wp2_with ((with_reducible refine wp_region_gw (by kernel_rfl) (by kernel_rfl) ?_); have hcq := @GwOf.cell; (repeat (go_big_quiet_step (fail))); refine wpQuiet_nil ?_; clear hcq; rintro w' ⟨⟨w', hb⟩, rfl⟩; (try dsimp only); have hc := hb.cells; have hf := hb.frozens; have hz := hb.size; (try simp at hz); (try have hz0 : w.heap.size < w'.heap.size := (by omega)); (try have hz1 : w.heap.size + 1 < w'.heap.size := (by omega)); (try have hz2 : w.heap.size + 2 < w'.heap.size := (by omega)); (try have hz3 : w.heap.size + 3 < w'.heap.size := (by omega)); (try have hz4 : w.heap.size + 4 < w'.heap.size := (by omega)); (try have hz5 : w.heap.size + 5 < w'.heap.size := (by omega)))
    go_ret
    exact ⟨_, rfl, byte_bd S hSr, hcur.to hb, grownBy_trans hgr (gw_grow hb g)⟩

set_option maxHeartbeats 2000000 in
theorem s_pick (w0 w : World) (g m : Nat) (n : Int) (hm : m ≤ 100000000000) (hn : n ≤ 1000000000000) (hC : CurP w0 w g m) :
    Calls Try.prog 41 #[.pointer (some ⟨g, 0, none⟩), .int .i64 n] w fun e w' => ∃ v : Int, e = .returned (.int .i64 v) ∧ (0 ≤ v ∧ v ≤ 65535 ∧ (1 ≤ n → v < n)) ∧ CurP w0 w' g (m + 2) ∧ w.grownBy w' (some g) := by
  by_cases h1 : n ≤ 1
  · go_enter Try.func41, Try.ntmps41
    go_wp2_with fail
    go_ret
    exact ⟨0, rfl, by omega, hC.mono (by omega), World.grownBy.refl w _⟩
  · go_enter Try.func41, Try.ntmps41
    go_wp2_with fail
    refine (s_next w0 w g m (by omega) hC).mono ?_
    rintro _ w1 ⟨v, rfl, hv, hC1, hg1⟩
    by_cases h2 : 200 < n
    · go_wp2_with fail
      refine (s_next w0 w1 g (m + 1) (by omega) hC1).mono ?_
      rintro _ w2 ⟨u, rfl, hu, hC2, hg2⟩
      go_wp2_with fail
      go_ret
      have h3 := Int.emod_nonneg (v * 256 + u) (show n ≠ 0 by omega)
      have h4 := Int.emod_lt_of_pos (v * 256 + u) (show 0 < n by omega)
      have h5 : (v * 256 + u) % n ≤ v * 256 + u := by
        have e1 := Int.mul_ediv_add_emod (v * 256 + u) n
        have e2 := Int.mul_nonneg (show 0 ≤ n by omega) (Int.ediv_nonneg (show 0 ≤ v * 256 + u by omega) (show 0 ≤ n by omega))
        omega
      exact ⟨(v * 256 + u) % n, rfl, by omega, hC2, grownBy_trans hg1 hg2⟩
    · go_wp2_with fail
      go_ret
      have h3 := Int.emod_nonneg v (show n ≠ 0 by omega)
      have h4 := Int.emod_lt_of_pos v (show 0 < n by omega)
      exact ⟨v % n, rfl, by omega, hC1.mono (by omega), hg1⟩
/-- Whether a list has a bound. -/
def SmV (vs : List Value) : Prop := ∀ u ∈ vs, ∃ n : Int, u = .int .i64 n ∧ -1000000000000 ≤ n ∧ n ≤ 1000000000000
set_option maxHeartbeats 2000000 in
theorem s_among (w0 w : World) (g m k n : Nat) (arr : Array Value) (e : TypeId) (hm : m ≤ 10000000000) (hn : n ≤ 1000000) (hC : CurP w0 w g m) (hb : w.heap[k]? = some (.cells arr e (0, 0))) (hk : k ≠ g) (ha : SmV arr.toList) (hs : arr.size = n) (hn0 : 0 < n) :
    Calls Try.prog 66 #[.pointer (some ⟨g, 0, none⟩), .slice (some ⟨k, 0, none⟩) n n] w fun e w' => ∃ v : Int, e = .returned (.int .i64 v) ∧ (-1000000000000 ≤ v ∧ v ≤ 1000000000000 ∧ .int .i64 v ∈ arr.toList) ∧ CurP w0 w' g (m + 2) ∧ w.grownBy w' (some g) := by
  have Hb := Lib.hid hb
  have Ha := Lib.hid ha
  have Hs := Lib.hid hs
  clear hb ha hs
  go_enter Try.func66, Try.ntmps66
  go_wp2_with fail
  refine (s_pick w0 w g m n (by omega) (by omega) hC).mono ?_
  rintro _ w1 ⟨v, rfl, hv, hC1, hg1⟩
  have hv2 := hv.2.2 (by omega)
  obtain ⟨i, rfl⟩ : ∃ i : Nat, v = i := ⟨v.toNat, by omega⟩
  have hi : i < n := by omega
  obtain ⟨x, hx⟩ : ∃ x, arr[i]? = some x := ⟨arr[i]'(by rw [Hs.out]; exact hi), Array.getElem?_eq_getElem _⟩
  have hxm : x ∈ arr.toList := by
    obtain ⟨h, rfl⟩ := Array.getElem?_eq_some_iff.1 hx
    exact Array.mem_toList_iff.2 (Array.getElem_mem h)
  obtain ⟨q, rfl, hq1, hq2⟩ := Ha.out x hxm
  have hc : w1.cell? ⟨k, i, none⟩ = some (.int .i64 q) := by
    have hkl : k < w.heap.size := (Array.getElem?_eq_some_iff.1 Hb.out).1
    rw [cell_of_row w1 k i arr e (0, 0) ((hg1.block k hkl (by simpa using hk)).trans Hb.out)]
    exact hx
  have Hm := Lib.hid hxm
  clear hx hxm
  go_wp2_with fail
  go_ret
  exact ⟨q, rfl, ⟨hq1, hq2, Hm.out⟩, hC1, hg1⟩
theorem s_one (w0 w : World) (g m : Nat) (n : Int) (hm : m ≤ 10000000000) (hn : n ≤ 1000000) (hC : CurP w0 w g m) :
    Calls Try.prog 70 #[.pointer (some ⟨g, 0, none⟩), .int .i64 n] w fun e w' => ∃ b : Bool, e = .returned (.bool b) ∧ CurP w0 w' g (m + 2) ∧ w.grownBy w' (some g) := by
  go_enter Try.func70, Try.ntmps70
  go_wp2_with fail
  refine (s_pick w0 w g m n (by omega) (by omega) hC).mono ?_
  rintro _ w1 ⟨v, rfl, hv, hC1, hg1⟩
  go_wp2_with fail
  go_ret
  exact ⟨_, rfl, hC1, hg1⟩

theorem grow_alloc {a b : World} {r : Option Nat} (h : a.grownBy b r) (o : Obj) : a.grownBy (b.alloc o) r := grownBy_trans h (((Gw.refl b).alloc o).by_ r)
theorem grow_set {a b : World} {r : Option Nat} (h : a.grownBy b r) {p : Addr} (hp : a.heap.size ≤ p.block) (u : Value) : a.grownBy (b.setCell p u) r :=
  ⟨h.os, h.tape, h.output, by simpa using h.size, fun k hk hne => (Below.heap_setCell b p u k (by omega)).trans (h.block k hk hne)⟩
theorem CurP.set {w0 w : World} {g m : Nat} (h : CurP w0 w g m) {p : Addr} (hp : w0.heap.size ≤ p.block) (hne : ¬(p.block = g)) (u : Value) : CurP w0 (w.setCell p u) g m := by
  obtain ⟨h1, h2, h3, A, bs, c, q, s, h4, h5⟩ := h
  exact ⟨h1.set hp u, h2, by simpa using h3, A, bs, c, q, s, (Below.heap_setCell w p u g (fun e => hne e.symm)).trans h4, h5⟩
theorem c_pick {w0 w : World} {g m : Nat} {n : Int} (hC : CurP w0 w g m) (hm : m ≤ 100000000000) (hn : n ≤ 1000000000000) :
    Calls Try.prog 41 #[.pointer (some ⟨g, 0, none⟩), .int .i64 n] w fun e w' => ∃ v : Int, e = .returned (.int .i64 v) ∧ (0 ≤ v ∧ v ≤ 65535 ∧ (1 ≤ n → v < n)) ∧ CurP w0 w' g (m + 2) ∧ w.grownBy w' (some g) := s_pick w0 w g m n hm hn hC
theorem c_among {w0 W : World} {g m n H : Nat} {arr : Array Value} {e : TypeId} (hC : CurP w0 W g m) (hm : m ≤ 10000000000) (ha : SmV arr.toList) (hs : arr.size = n) (hn0 : 0 < n) (hn : n ≤ 1000000) (hH : W.heap.size = H) :
    Calls Try.prog 66 #[.pointer (some ⟨g, 0, none⟩), .slice (some ⟨H, 0, none⟩) n n] (W.alloc (.cells arr e)) fun e' w' => ∃ v : Int, e' = .returned (.int .i64 v) ∧ (-1000000000000 ≤ v ∧ v ≤ 1000000000000 ∧ .int .i64 v ∈ arr.toList) ∧ CurP w0 w' g (m + 2) ∧ (W.alloc (.cells arr e)).grownBy w' (some g) := by
  subst hH
  exact s_among w0 (W.alloc (.cells arr e)) g m W.heap.size n arr e hm hn (hC.alloc _) (heap_alloc_new W _) (by have := hC.lt; omega) ha hs hn0
/-- A new cursor. -/
theorem CurP.new {w : World} {A : Option Addr} {bs : List UInt8} {c : Nat} (hr : Rd w A bs) (hl : bs.length ≤ 9223372036854775807) {W : World} (hW : Gw w W) :
    CurP w (W.alloc (.cells #[.slice A bs.length c, .int .i64 0, .int .u64 0] 61)) W.heap.size 0 :=
  ⟨hW.alloc _, hW.size, by simp, A, bs, c, 0, 0, heap_alloc_new W _, hr, hl, Nat.le_refl _, by omega, by omega⟩
end Go.Proofs.Ythokcddabgojgaa
