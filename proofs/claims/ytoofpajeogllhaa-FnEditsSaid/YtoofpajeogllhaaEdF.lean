/-
  Draws of charts: the walk.
-/
import Derived.Test.YtoofpajeogllhaaEdE
namespace Go.Proofs.Ytoofpajeogllhaa
open Go.RowKit

theorem c_amongD {w0 W : World} {g m n H : Nat} {arr : Array Value} {e : TypeId} (hC : CurP w0 W g m) (hm : m ≤ 10000000000) (ha : SmV arr.toList) (hs : arr.size = n) (hn0 : 0 < n) (hn : n ≤ 1000000) (hH : W.heap.size = H) :
    Calls Try.prog 41 #[.pointer (some ⟨g, 0, none⟩), .slice (some ⟨H, 0, none⟩) n n] (W.alloc (.cells arr e)).drew fun e' w' => ∃ v : Int, e' = .returned (.int .i64 v) ∧ (-1000000000000 ≤ v ∧ v ≤ 1000000000000 ∧ .int .i64 v ∈ arr.toList) ∧ CurP w0 w' g (m + 2) ∧ (W.alloc (.cells arr e)).drew.grownBy w' (some g) := by
  subst hH
  exact s_among w0 (W.alloc (.cells arr e)).drew g m W.heap.size n arr e hm hn ((hC.alloc _).to (Gw.refl _).drew) (heap_alloc_new W _) (by have := hC.lt; omega) ha hs hn0
theorem c_amongD2 {w0 W : World} {g m n H : Nat} {arr : Array Value} {e : TypeId} {o : Obj} (hC : CurP w0 W g m) (hm : m ≤ 10000000000) (ha : SmV arr.toList) (hs : arr.size = n) (hn0 : 0 < n) (hn : n ≤ 1000000) (hH : W.heap.size = H) :
    Calls Try.prog 41 #[.pointer (some ⟨g, 0, none⟩), .slice (some ⟨H, 0, none⟩) n n] ((W.alloc (.cells arr e)).alloc o).drew fun e' w' => ∃ v : Int, e' = .returned (.int .i64 v) ∧ (-1000000000000 ≤ v ∧ v ≤ 1000000000000 ∧ .int .i64 v ∈ arr.toList) ∧ CurP w0 w' g (m + 2) ∧ ((W.alloc (.cells arr e)).alloc o).drew.grownBy w' (some g) := by
  subst hH
  exact s_among w0 ((W.alloc (.cells arr e)).alloc o).drew g m W.heap.size n arr e hm hn (((hC.alloc _).alloc _).to (Gw.refl _).drew) ((Below.heap_alloc _ _ _ (by simp)).trans (heap_alloc_new W _)) (by have := hC.lt; omega) ha hs hn0
set_option maxHeartbeats 8000000 in
set_option maxRecDepth 20000 in
theorem s_chartOf {w0 w : World} {g m : Nat} (hC : CurP w0 w g m) (hm : m ≤ 100000000) (n : Nat) (hn : n ≤ 13) :
    Calls Try.prog 54 #[.pointer (some ⟨g, 0, none⟩), .int .i64 n] w fun e w' => ∃ (l : List (Int × Int)) (A : Option Addr) (c : Nat), e = .returned (.slice A n c) ∧ l.length = n ∧ (∀ x ∈ l, TmS x) ∧ w'.ownsRow w.heap.size 26 2 (.slice A n c) n (flat l) ∧ CurP w0 w' g (m + 6000) ∧ w.grownBy w' (some g) := by
  obtain ⟨i0, hi, hz0, hz1, hz2⟩ := info_parts infoSpot
  have hlt := CurP.lt hC
  have hw0 := hC.gw.size
  have hne : ∀ {b : Nat}, ¬g = b → (some g : Option Nat) ≠ some b := fun h e => h (Option.some.inj e)
  go_enter Try.func54, Try.ntmps54
  go_wp2_with fail
  go_loopw [5, 6, 7, 8] (fun o q _ _ wr => ∃ (T k : Nat) (l : List (Int × Int)) (D : Option Addr) (d : Nat), q = .int .i64 T ∧ o = .slice D k d ∧ Hid (l.length = k) ∧ k ≤ n ∧ Hid (TryI n T l) ∧ T ≤ 74 ∧ Hid (∀ x ∈ l, TmS x) ∧ wr.ownsRow w.heap.size 26 2 (.slice D k d) k (flat l) ∧ Hid (CurP w0 wr g (m + 60 * T) ∧ w.grownBy wr (some g))) (fun _ q _ _ _ => 100 - (intOf q).toNat)
  case atStart => exact ⟨0, 0, [], none, 0, by go_num, rfl, rfl, Nat.zero_le _, fun h => absurd h (by omega), by omega, all_nil, World.ownsRow_nil _ _ _ _, ⟨hC, World.grownBy.refl _ _⟩⟩
  case round =>
    obtain ⟨T, k, l, D, d, rfl, rfl, hk, hkn, htry, hT, hB, hown, hcur⟩ := hrel
    obtain ⟨wo, rfl⟩ : ∃ wo : World, wo = wr := ⟨_, rfl⟩
    by_cases hlt2 : k < n
    · have hkz : (k : Int) < (n : Int) := by omega
      have wT : IntKind.i64.wrap ((T : Int) + 1) = ((T + 1 : Nat) : Int) := by rw [IntWalk.i64_in _ (by omega)]; omega
      go_wp2_with fail
      refine (s_spot (w0 := w0) hcur.out.1 (by omega)).mono ?_
      rintro _ w1 ⟨x, y, rfl, hxy, hC1, hr1⟩
      have hown1 := own_grow hown hr1 hlt
      have hg1 : w.grownBy w1 (some g) := grownBy_trans hcur.out.2 hr1
      have hs1 := hg1.size
      have hga : ¬g = w1.heap.size := by omega
      have hap := Lib.hid (show ¬(Value.slice D k d).ownBlock = some w1.heap.size from fun e => by have := (hown1.lt _ e).2; omega)
      have bx := Lib.hid (BoxR.new w1 #[.int .i64 x, .int .i64 y] 26)
      have hownA := hown1.alloc (.cells #[.int .i64 x, .int .i64 y] 26)
      have hCA := Lib.hid (hC1.alloc (.cells #[.int .i64 x, .int .i64 y] 26))
      have hgA := Lib.hid (grow_alloc hg1 (.cells #[.int .i64 x, .int .i64 y] 26))
      clear hown hr1 hown1 hC1 hg1 hcur
      go_upto_region 6 with fail
      go_cut [23] (fun u wx => ∃ b : Bool, u = .bool b ∧ (b = true → 0 < k) ∧ BoxR wx w1.heap.size #[.int .i64 x, .int .i64 y] 26 ∧ wx.ownsRow w.heap.size 26 2 (.slice D k d) k (flat l) ∧ Hid (CurP w0 wx g (m + 60 * T + 24) ∧ w.grownBy wx (some g)))
      case first =>
        by_cases h0 : k = 0
        · subst h0
          go_wp2_with fail
          go_meet
          exact ⟨false, rfl, (fun h => by cases h), bx.out, hownA, ⟨hCA.out.mono (by omega), hgA.out⟩⟩
        have hkp : (0 : Int) < (k : Int) := by omega
        go_wp2_with fail
        refine (s_one w0 _ g _ 2 (by omega) (by omega) hCA.out).mono ?_
        rintro _ w2 ⟨b, rfl, hC2, hr2⟩
        have bx2 := bx.out.grown hr2 (hne hga)
        have hown2 := own_grow hownA hr2 hlt
        have hg2 := grownBy_trans hgA.out hr2
        clear hr2 hownA
        go_wp2_with fail
        go_meet
        exact ⟨b, rfl, fun _ => by omega, bx2, hown2, ⟨hC2.mono (by omega), hg2⟩⟩
      case rest =>
      clear hownA bx hCA hgA
      obtain ⟨b, rfl, hbk, bx2, hown2, hcur2⟩ := hcut
      go_upto_if 23 with fail
      go_cut [8] (fun _ wx => ∃ x y : Int, BoxR wx w1.heap.size #[.int .i64 x, .int .i64 y] 26 ∧ SpotT x y ∧ wx.ownsRow w.heap.size 26 2 (.slice D k d) k (flat l) ∧ Hid (CurP w0 wx g (m + 60 * T + 40) ∧ w.grownBy wx (some g)))
      case first =>
        cases b with
        | false =>
          go_wp2_with fail
          go_meet
          exact ⟨x, y, bx2, by omega, hown2, ⟨hcur2.out.1.mono (by omega), hcur2.out.2⟩⟩
        | true =>
          have hk0 := hbk rfl
          obtain ⟨gg, hA, hgg1, hgg2⟩ := own_addr hown2 hk0
          subst hA
          have hkz0 : (0 : Int) < (k : Int) := by omega
          go_wp2_with fail
          refine (c_pick (w0 := w0) hcur2.out.1 (by omega) (by omega)).mono ?_
          rintro _ w3 ⟨j0, rfl, ⟨hi1, hi2, hi3⟩, hC3, hr3⟩
          have hi4 := hi3 (by omega)
          obtain ⟨i, rfl⟩ : ∃ i : Nat, j0 = i := ⟨j0.toNat, by omega⟩
          obtain ⟨xb, hx⟩ := get_of_lt (show i < l.length by rw [hk.out]; omega)
          have hxb := hB.out xb (mem_of_get hx)
          obtain ⟨x1, y1⟩ := xb
          have hxb : (-10000 ≤ x1 ∧ x1 ≤ 10000) ∧ -10000 ≤ y1 ∧ y1 ≤ 10000 := hxb
          have bx3 := bx2.grown hr3 (hne hga)
          have hown3 := own_grow hown2 hr3 hlt
          have hg3 := grownBy_trans hcur2.out.2 hr3
          have hce := own_cellsG (α := Int × Int) hk.out hown3 hx
          have e0 : w3.cell? ⟨gg, i * 2, none⟩ = some (.int .i64 x1) := hce 0 _ rfl
          have e1 : w3.cell? ⟨gg, i * 2 + 1, none⟩ = some (.int .i64 y1) := hce 1 _ rfl
          have hs3 := bx3.lt
          have hgl3 := CurP.lt hC3
          have hgg3 : gg < w3.heap.size := (hown3.lt gg rfl).2
          clear hi3 hr3 hx hce bx2 hown2 hcur2
          go_wp2_with fail
          have bW := Lib.hid (BoxR.new w3 #[.int .i64 x1, .int .i64 y1] 26)
          have aW := Lib.hid (bx3.gw ((Gw.refl w3).alloc (.cells #[.int .i64 x1, .int .i64 y1] 26)))
          have oW := Lib.hid (hown3.alloc (.cells #[.int .i64 x1, .int .i64 y1] 26))
          have cW := Lib.hid (hC3.alloc (.cells #[.int .i64 x1, .int .i64 y1] 26))
          have gW := Lib.hid (grow_alloc hg3 (.cells #[.int .i64 x1, .int .i64 y1] 26))
          have lW : w3.heap.size < (w3.alloc (.cells #[.int .i64 x1, .int .i64 y1] 26)).heap.size := by simp
          clear bx3 hown3 hC3 hg3 e0 e1
          generalize w3.alloc (.cells #[.int .i64 x1, .int .i64 y1] 26) = W at *
          have hgW : g < W.heap.size := by omega
          have haW : w1.heap.size < W.heap.size := by omega
          have hks : ∀ u, Gw W u → (u.cell? ⟨w3.heap.size, 0, none⟩ = some (.int .i64 x1) ∧ u.cell? ⟨w3.heap.size, 1, none⟩ = some (.int .i64 y1)) := fun u hu => ⟨(bW.out.gw hu).cell 0 rfl, (bW.out.gw hu).cell 1 rfl⟩
          have Hks := Lib.hid hks
          have ne3 : ¬w3.heap.size = w1.heap.size := by omega
          clear hks
          go_region_held3 (fun u => u.cell? ⟨w3.heap.size, 0, none⟩ = some (.int .i64 x1) ∧ u.cell? ⟨w3.heap.size, 1, none⟩ = some (.int .i64 y1)) (first | with_reducible assumption | (have h5 := bb5; exact ⟨((bb5.other (p := ⟨w1.heap.size, 0, none⟩) ne3 _).other (p := ⟨w1.heap.size, 1, none⟩) ne3 _).cell 0 rfl, ((bb5.other (p := ⟨w1.heap.size, 0, none⟩) ne3 _).other (p := ⟨w1.heap.size, 1, none⟩) ne3 _).cell 1 rfl⟩) | (have h5 := bb5; exact ⟨(bb5.other (p := ⟨w1.heap.size, 0, none⟩) ne3 _).cell 0 rfl, (bb5.other (p := ⟨w1.heap.size, 0, none⟩) ne3 _).cell 1 rfl⟩) | exact Hks.out _ (by (repeat (first | with_reducible exact Gw.refl _ | with_reducible assumption | ((with_reducible refine Gw.set ?_ ?_ _); rotate_left; (focus (first | (simp; done) | (simp; omega) | omega))) | with_reducible refine Gw.alloc ?_ _ | with_reducible refine Gw.drew ?_ | with_reducible refine Gw.drewN ?_ _ | (refine Gw.trans ?_ (by with_reducible assumption))))) | go_keep)
            (first
              | (go_at_call 64; refine (s_l1Least _ _ _).mono ?_; rintro e w9 ⟨rfl, rfl⟩)
              | (have hH4 := HB4; go_at_call 41; have hGv : Gw w4 w4 := Gw.refl _; refine (s_among w0 w4 g _ _ 4 _ 3 (by omega) (by omega) hC4 HB4.out (by omega) (by simp [SmV]) (by first | rfl | simp) (by omega)).mono ?_; rintro e w5 ⟨q, rfl, ⟨hq1, hq2, hqm⟩, hC5, hr5⟩; have hqb : 0 ≤ q ∧ q ≤ 16 := (by simp at hqm; omega); clear hqm; have wq : IntKind.i64.wrap (y1 + q) = y1 + q := (IntWalk.i64_in _ (by omega)); have bb5 := (bb4.gw hGv).grown hr5 (hne hgb); have ba5 := (ba4.gw hGv).grown hr5 (hne hga); have Hks := Lib.hid (fun u (hu : Gw w5 u) => (And.intro ((bb5.gw hu).cell 0 rfl) ((bb5.gw hu).cell 1 rfl) : u.cell? ⟨w3.heap.size, 0, none⟩ = some (.int .i64 x1) ∧ u.cell? ⟨w3.heap.size, 1, none⟩ = some (.int .i64 y1))); have hS5 := Hks.out w5 (Gw.refl _); have z0 := ba5.cell 0 rfl; have z1 := ba5.cell 1 rfl; have f0 := ba5.free 0; have f1 := ba5.free 1; have ho5 := own_grow (own_gw ho4 hGv) hr5 hlt; have hg5 := grownBy_trans hg4 (grownBy_trans (gw_grow hGv g) hr5))
              | (have hC4' := hC4; go_at_call 41; have hGv : Gw w4 (w4.alloc (.cells #[.int .i64 0, .int .i64 8, .int .i64 16, .int .i64 3] 3)) := (Gw.refl _).alloc _; refine (c_among (w0 := w0) (W := w4) (arr := #[.int .i64 0, .int .i64 8, .int .i64 16, .int .i64 3]) hC4 (by omega) (by simp [SmV]) (by first | rfl | simp) (by omega) (by omega) (by first | rfl | simp)).mono ?_; rintro e w5 ⟨q, rfl, ⟨hq1, hq2, hqm⟩, hC5, hr5⟩; have hqb : 0 ≤ q ∧ q ≤ 16 := (by simp at hqm; omega); clear hqm; have wq : IntKind.i64.wrap (y1 + q) = y1 + q := (IntWalk.i64_in _ (by omega)); have bb5 := (bb4.gw hGv).grown hr5 (hne hgb); have ba5 := (ba4.gw hGv).grown hr5 (hne hga); have Hks := Lib.hid (fun u (hu : Gw w5 u) => (And.intro ((bb5.gw hu).cell 0 rfl) ((bb5.gw hu).cell 1 rfl) : u.cell? ⟨w3.heap.size, 0, none⟩ = some (.int .i64 x1) ∧ u.cell? ⟨w3.heap.size, 1, none⟩ = some (.int .i64 y1))); have hS5 := Hks.out w5 (Gw.refl _); have z0 := ba5.cell 0 rfl; have z1 := ba5.cell 1 rfl; have f0 := ba5.free 0; have f1 := ba5.free 1; have ho5 := own_grow (own_gw ho4 hGv) hr5 hlt; have hg5 := grownBy_trans hg4 (grownBy_trans (gw_grow hGv g) hr5))
              | (go_at_call 41; refine (c_amongD (w0 := w0) (W := W) (arr := #[.int .i64 0, .int .i64 8, .int .i64 16, .int .i64 24, .int .i64 5]) cW.out (by omega) (by simp [SmV]) (by first | rfl | simp) (by omega) (by omega) (by first | rfl | simp)).mono ?_; rintro e w4 ⟨r, rfl, ⟨hr1', hr2', hrm⟩, hC4, hr4⟩; have hrb : 0 ≤ r ∧ r ≤ 24 := (by simp at hrm; omega); clear hrm; have wr4 : IntKind.i64.wrap (x1 + r) = x1 + r := (IntWalk.i64_in _ (by omega)); have hgb : ¬g = w3.heap.size := (by omega); have hGu : Gw W (W.alloc (.cells #[.int .i64 0, .int .i64 8, .int .i64 16, .int .i64 24, .int .i64 5] 3)).drew := (by (repeat (first | with_reducible exact Gw.refl _ | with_reducible assumption | ((with_reducible refine Gw.set ?_ ?_ _); rotate_left; (focus (first | (simp; done) | (simp; omega) | omega))) | with_reducible refine Gw.alloc ?_ _ | with_reducible refine Gw.drew ?_ | with_reducible refine Gw.drewN ?_ _ | (refine Gw.trans ?_ (by with_reducible assumption))))); have bb4 := (bW.out.gw hGu).grown hr4 (hne hgb); have ba4 := (aW.out.gw hGu).grown hr4 (hne hga); have Hks := Lib.hid (fun u (hu : Gw w4 u) => (And.intro ((bb4.gw hu).cell 0 rfl) ((bb4.gw hu).cell 1 rfl) : u.cell? ⟨w3.heap.size, 0, none⟩ = some (.int .i64 x1) ∧ u.cell? ⟨w3.heap.size, 1, none⟩ = some (.int .i64 y1))); have hS4 := Hks.out w4 (Gw.refl _); have ho4 := own_grow (own_gw oW.out hGu) hr4 hlt; have hg4 := grownBy_trans gW.out (grownBy_trans (gw_grow hGu g) hr4); have hs4 := hr4.size)
              | (go_at_call 41; refine (c_amongD2 (w0 := w0) (W := W) (arr := #[.int .i64 0, .int .i64 8, .int .i64 16, .int .i64 24, .int .i64 5]) (o := .cells #[.int .i64 0, .int .i64 8, .int .i64 16, .int .i64 3] 3) cW.out (by omega) (by simp [SmV]) (by first | rfl | simp) (by omega) (by omega) (by first | rfl | simp)).mono ?_; rintro e w4 ⟨r, rfl, ⟨hr1', hr2', hrm⟩, hC4, hr4⟩; have hrb : 0 ≤ r ∧ r ≤ 24 := (by simp at hrm; omega); clear hrm; have wr4 : IntKind.i64.wrap (x1 + r) = x1 + r := (IntWalk.i64_in _ (by omega)); have hgb : ¬g = w3.heap.size := (by omega); have hGu : Gw W ((W.alloc (.cells #[.int .i64 0, .int .i64 8, .int .i64 16, .int .i64 24, .int .i64 5] 3)).alloc (.cells #[.int .i64 0, .int .i64 8, .int .i64 16, .int .i64 3] 3)).drew := (by (repeat (first | with_reducible exact Gw.refl _ | with_reducible assumption | ((with_reducible refine Gw.set ?_ ?_ _); rotate_left; (focus (first | (simp; done) | (simp; omega) | omega))) | with_reducible refine Gw.alloc ?_ _ | with_reducible refine Gw.drew ?_ | with_reducible refine Gw.drewN ?_ _ | (refine Gw.trans ?_ (by with_reducible assumption))))); have bb4 := (bW.out.gw hGu).grown hr4 (hne hgb); have ba4 := (aW.out.gw hGu).grown hr4 (hne hga); have Hks := Lib.hid (fun u (hu : Gw w4 u) => (And.intro ((bb4.gw hu).cell 0 rfl) ((bb4.gw hu).cell 1 rfl) : u.cell? ⟨w3.heap.size, 0, none⟩ = some (.int .i64 x1) ∧ u.cell? ⟨w3.heap.size, 1, none⟩ = some (.int .i64 y1))); have hS4 := Hks.out w4 (Gw.refl _); have ho4 := own_grow (own_gw oW.out hGu) hr4 hlt; have hg4 := grownBy_trans gW.out (grownBy_trans (gw_grow hGu g) hr4); have hs4 := hr4.size; have HB4 : Hid (w4.heap[W.heap.size + 1]? = some (.cells #[.int .i64 0, .int .i64 8, .int .i64 16, .int .i64 3] 3 (0, 0))) := (by have h1 := heap_alloc_new (W.alloc (.cells #[.int .i64 0, .int .i64 8, .int .i64 16, .int .i64 24, .int .i64 5] 3)) (.cells #[.int .i64 0, .int .i64 8, .int .i64 16, .int .i64 3] 3); rw [World.size_alloc] at h1; exact (hr4.block (W.heap.size + 1) (by show _ < (((W.alloc _).alloc _).heap).size; simp) (by intro h; have := Option.some.inj h; omega)).trans h1))
              | (go_at_call 41; refine (c_amongD (w0 := w0) (W := W.alloc (.cells #[.int .i64 0, .int .i64 8, .int .i64 16, .int .i64 3] 3)) (arr := #[.int .i64 0, .int .i64 8, .int .i64 16, .int .i64 24, .int .i64 5]) (cW.out.alloc _) (by omega) (by simp [SmV]) (by first | rfl | simp) (by omega) (by omega) (by first | rfl | simp)).mono ?_; rintro e w4 ⟨r, rfl, ⟨hr1', hr2', hrm⟩, hC4, hr4⟩; have hrb : 0 ≤ r ∧ r ≤ 24 := (by simp at hrm; omega); clear hrm; have wr4 : IntKind.i64.wrap (x1 + r) = x1 + r := (IntWalk.i64_in _ (by omega)); have hgb : ¬g = w3.heap.size := (by omega); have hGu : Gw W ((W.alloc (.cells #[.int .i64 0, .int .i64 8, .int .i64 16, .int .i64 3] 3)).alloc (.cells #[.int .i64 0, .int .i64 8, .int .i64 16, .int .i64 24, .int .i64 5] 3)).drew := (by (repeat (first | with_reducible exact Gw.refl _ | with_reducible assumption | ((with_reducible refine Gw.set ?_ ?_ _); rotate_left; (focus (first | (simp; done) | (simp; omega) | omega))) | with_reducible refine Gw.alloc ?_ _ | with_reducible refine Gw.drew ?_ | with_reducible refine Gw.drewN ?_ _ | (refine Gw.trans ?_ (by with_reducible assumption))))); have bb4 := (bW.out.gw hGu).grown hr4 (hne hgb); have ba4 := (aW.out.gw hGu).grown hr4 (hne hga); have Hks := Lib.hid (fun u (hu : Gw w4 u) => (And.intro ((bb4.gw hu).cell 0 rfl) ((bb4.gw hu).cell 1 rfl) : u.cell? ⟨w3.heap.size, 0, none⟩ = some (.int .i64 x1) ∧ u.cell? ⟨w3.heap.size, 1, none⟩ = some (.int .i64 y1))); have hS4 := Hks.out w4 (Gw.refl _); have ho4 := own_grow (own_gw oW.out hGu) hr4 hlt; have hg4 := grownBy_trans gW.out (grownBy_trans (gw_grow hGu g) hr4); have hs4 := hr4.size; have HB4 : Hid (w4.heap[W.heap.size]? = some (.cells #[.int .i64 0, .int .i64 8, .int .i64 16, .int .i64 3] 3 (0, 0))) := (by have h1 := heap_alloc_new W (.cells #[.int .i64 0, .int .i64 8, .int .i64 16, .int .i64 3] 3); exact (hr4.block W.heap.size (by show _ < (((W.alloc _).alloc _).heap).size; simp; omega) (by intro h; have := Option.some.inj h; omega)).trans ((Below.heap_alloc _ _ _ (by simp)).trans h1)))
              | fail)
          all_goals
            go_wp2_with fail
            go_meet
            exact ⟨min 1280 (x1 + r), min 672 (y1 + q), (ba5.set 0 (.int .i64 (min 1280 (x1 + r)))).set 1 (.int .i64 (min 672 (y1 + q))), by omega, own_setB (own_setB ho5 hap.out 0 _) hap.out 1 _, ⟨((hC5.set (p := ⟨w1.heap.size, 0, none⟩) (by show w0.heap.size ≤ w1.heap.size; omega) (by exact fun e => hga e.symm) _).set (p := ⟨w1.heap.size, 1, none⟩) (by show w0.heap.size ≤ w1.heap.size; omega) (by exact fun e => hga e.symm) _).mono (by omega), grow_set (grow_set hg5 (p := ⟨w1.heap.size, 0, none⟩) (by show w.heap.size ≤ w1.heap.size; omega) _) (p := ⟨w1.heap.size, 1, none⟩) (by show w.heap.size ≤ w1.heap.size; omega) _⟩⟩
      case rest =>
      clear hown2 hcur2 bx2 hbk
      clear b
      obtain ⟨x2, y2, bx2, hxy2, hown2, hcur2⟩ := hcut
      have w3l : IntKind.i64.wrap (3 * (k : Int)) = 3 * (k : Int) := IntWalk.i64_in _ (by omega)
      have w7T : IntKind.i64.wrap (7 + (T : Int)) = 7 + (T : Int) := IntWalk.i64_in _ (by omega)
      have Bx2 := Lib.hid bx2
      clear bx2 hxy
      go_upto_if 47 with fail
      go_cut [8] (fun _ wx => ∃ x y : Int, BoxR wx w1.heap.size #[.int .i64 x, .int .i64 y] 26 ∧ SpotT x y ∧ Hid (60 < T → (x, y) = (3 * (k : Int), 7 + (T : Int))) ∧ wx.ownsRow w.heap.size 26 2 (.slice D k d) k (flat l) ∧ Hid (CurP w0 wx g (m + 60 * T + 40) ∧ w.grownBy wx (some g)))
      case first =>
        by_cases h60 : 60 < T
        · have h60z : (60 : Int) < (T : Int) := by omega
          have z0 := Bx2.out.cell 0 rfl
          have z1 := Bx2.out.cell 1 rfl
          have y0 := Bx2.out.free 0
          have y1 := Bx2.out.free 1
          have hq := Lib.hid ((Bx2.out.set 0 (.int .i64 (3 * (k : Int)))).set 1 (.int .i64 (7 + (T : Int))))
          have hC9 := Lib.hid ((hcur2.out.1.set (p := ⟨w1.heap.size, 0, none⟩) (by show w0.heap.size ≤ w1.heap.size; omega) (by exact fun e => hga e.symm) (.int .i64 (3 * (k : Int)))).set (p := ⟨w1.heap.size, 1, none⟩) (by show w0.heap.size ≤ w1.heap.size; omega) (by exact fun e => hga e.symm) (.int .i64 (7 + (T : Int))))
          have hg9 := Lib.hid (grow_set (grow_set hcur2.out.2 (p := ⟨w1.heap.size, 0, none⟩) (by show w.heap.size ≤ w1.heap.size; omega) (.int .i64 (3 * (k : Int)))) (p := ⟨w1.heap.size, 1, none⟩) (by show w.heap.size ≤ w1.heap.size; omega) (.int .i64 (7 + (T : Int))))
          have hown9 := Lib.hid (own_setB (own_setB hown2 hap.out 0 (.int .i64 (3 * (k : Int)))) hap.out 1 (.int .i64 (7 + (T : Int))))
          go_wp2_with fail
          go_meet
          exact ⟨3 * (k : Int), 7 + (T : Int), hq.out, by omega, fun _ => rfl, hown9.out, ⟨hC9.out, hg9.out⟩⟩
        · have h60z : ¬(60 : Int) < (T : Int) := by omega
          go_wp2_with fail
          go_meet
          exact ⟨x2, y2, Bx2.out, hxy2, fun h => absurd h h60, hown2, hcur2⟩
      case rest =>
      clear hown2 hcur2 Bx2 hxy2
      obtain ⟨x3, y3, bx3, hxy3, hT3, hown3, hcur3⟩ := hcut
      have e0 := bx3.cell 0 rfl
      have e1 := bx3.cell 1 rfl
      have hb1 := bx3.lt
      have rdl : Rd _ D l := own_rd (by rw [hk.out]; exact hown3)
      have hnx := TryI.next htry.out (by rw [hk.out]; exact hlt2) (x := (x3, y3)) (fun h => by rw [hk.out]; exact hT3.out h)
      have Hnx := Lib.hid hnx
      clear hnx hT3
      go_wp2_with fail
      refine (s_chFind D k d l x3 y3 _ hk.out (by omega) rdl).mono ?_
      rintro _ w4 ⟨rfl, hb4⟩
      have hown4 := own_gw hown3 hb4
      have hC4 := hcur3.out.1.to hb4
      have hg4 := grownBy_trans hcur3.out.2 (gw_grow hb4 g)
      have bx4 := bx3.gw hb4
      have hfi := findF_iff l (x3, y3) 0
      have hfb := findF_bd l (x3, y3) 0
      obtain ⟨F, hF⟩ : ∃ F, findF l (x3, y3) 0 = F := ⟨_, rfl⟩
      rw [hF] at hfi ⊢
      have Hfi := Lib.hid hfi
      clear hown3 hcur3 bx3 hfi hfb hF e0 e1 hb1 rdl
      by_cases hF0 : 0 ≤ F
      · have hmem : (x3, y3) ∈ l := Hfi.out.1 hF0
        have hn1 := Lib.hid (Hnx.out.1 hmem)
        have hbd := hn1.out.bd
        have hFz : ¬F < 0 := by omega
        clear hmem
        go_wp2_with fail
        go_roundw
        case rel => exact ⟨T + 1, k, l, D, d, by go_num, rfl, hk, hkn, hn1, by omega, hB, hown4, ⟨hC4.mono (by omega), hg4⟩⟩
        case measure => simp [intOf]; omega
      · have hmem : (x3, y3) ∉ l := fun h => hF0 (Hfi.out.2 h)
        have hn1 := Lib.hid (Hnx.out.2 hmem)
        have hbd := hn1.out.bd
        have hFz : F < 0 := by omega
        have hB2 := Lib.hid (all_snoc (x := ((x3, y3) : Int × Int)) hB.out hxy3)
        have e0 := bx4.cell 0 rfl
        have e1 := bx4.cell 1 rfl
        have hs4 := hg4.size
        clear hmem
        go_wp2_with (at_builtin; go_loud (refine wpList_push2 (α := Int × Int) rfl (.tmp 58) (.tmp 60) 24 rfl w.heap.size 26 i0 _ 16 Try.underlying24 hi hz0 hz1 hz2 rfl (by omega) l D d (by rw [hk.out]; rfl) w4 (x3, y3) rfl w4.heap.size rfl rfl (by rw [hk.out]; exact hown4) (by rw [hk.out]; omega) hs4 ?_); intro acc' A' c'' w9 hacc' hl1 hl2 hown' hgr hblk _)
        rw [hk.out] at hl1 hl2
        have hk9 : Hid (acc'.length = k + 1) := by unfold Hid; omega
        rw [hk9.out] at hown' ⊢
        go_roundw
        case rel => exact ⟨T + 1, k + 1, acc', A', c'', by go_num, rfl, hk9, by omega, by unfold Hid; rw [hacc'.out]; exact hn1.out, by omega, by unfold Hid; rw [hacc'.out]; exact hB2.out, hown', ⟨(cur_push hC4 hlt hw0 hgr (by rw [hk.out]; exact fun k hk => (hown4.lt k hk).1)).mono (by omega), grow_push hg4 hgr (by rw [hk.out]; exact fun k hk => (hown4.lt k hk).1)⟩⟩
        case measure => simp [intOf]; omega
    · obtain rfl : k = n := by omega
      go_wp2_with fail
      go_ret
      exact ⟨l, D, d, rfl, hk.out, hB.out, hown, hcur.out.1.mono (by omega), hcur.out.2⟩
end Go.Proofs.Ytoofpajeogllhaa
