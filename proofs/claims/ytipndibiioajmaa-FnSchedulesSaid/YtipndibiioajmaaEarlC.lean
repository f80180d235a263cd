/-
  The first booked one: the reference's way.
-/
import Derived.Test.YtipndibiioajmaaEarlB
import Derived.Test.YtipndibiioajmaaStep
namespace Go.Proofs.Ytipndibiioajmaa
open Go.RowKit

theorem tells_T {p : Prop} {w : World} (hp : p) : ∀ e w', Tells p w e w' → e = .returned (.bool true) ∧ Gw w w' := by
  rintro e w' (⟨_, rfl, h⟩ | ⟨hn, _, _⟩)
  · exact ⟨rfl, h⟩
  · exact absurd hp hn
theorem tells_F {p : Prop} {w : World} (hp : ¬p) : ∀ e w', Tells p w e w' → e = .returned (.bool false) ∧ Gw w w' := by
  rintro e w' (⟨hn, _, _⟩ | ⟨_, rfl, h⟩)
  · exact absurd hn hp
  · exact ⟨rfl, h⟩
theorem rdB {α : Type} [Flat α] (w : World) (e : TypeId) (y : α) : Rd (w.alloc (.cells (Flat.cells y).toArray e)) (some ⟨w.heap.size, 0, none⟩) [y] := by
  intro _
  refine ⟨w.heap.size, 0, rfl, by simp, fun i z hz j u hu => ?_⟩
  cases i with
  | zero =>
    simp only [List.getElem?_cons_zero, Option.some.injEq] at hz
    subst hz
    rw [cell_of_row _ _ _ _ _ _ (heap_alloc_new w (.cells (Flat.cells y).toArray e))]
    simpa using hu
  | succ i => simp at hz
theorem rdB2 {α : Type} [Flat α] (w : World) (o : Obj) (e : TypeId) (y : α) : Rd ((w.alloc o).alloc (.cells (Flat.cells y).toArray e)) (some ⟨w.heap.size + 1, 0, none⟩) [y] := by
  have := rdB (w.alloc o) e y
  rwa [World.size_alloc] at this
theorem ownB2 (w : World) (o : Obj) (e : TypeId) (size base : Nat) (hb : base ≤ w.heap.size) : ((w.alloc o).alloc (.cells #[] e)).ownsRow base e size (.slice (some ⟨w.heap.size + 1, 0, none⟩) 0 0) 0 [] := by
  have := World.ownsRow_made (base := base) (e := e) (size := size) (w.alloc o) #[] 0 (by rw [World.size_alloc]; omega) (by simp [maxLen]) (by simp)
  rwa [World.size_alloc] at this
theorem rdDr {α : Type} [Flat α] {w : World} {A : Option Addr} {l : List α} (h : Rd w A l) : Rd w.drew A l := h.gw (Gw.refl _).drew
theorem own_capB {w : World} {base n c : Nat} {A : Option Addr} {e : TypeId} {size : Nat} {xs : List Value} (h : w.ownsRow base e size (.slice A n c) n xs) : n ≤ c := by
  obtain ⟨_, _, hv, hc, hc2, _⟩ := own_form h
  simp only [Value.slice.injEq, true_and] at hv
  obtain ⟨rfl, rfl⟩ := hv
  exact hc
section
open Go.ChangeShapes Go.WideShapes
variable {α : Type} [Flat α] {P : Program} {w : World}
theorem step_catG {ops : Array Oper} {o : Oper} {a : Act} {K : Act → World → Prop} {Q : Exit → Act → World → Prop} {E : Prop} (hw : Region.wanted o (yielded ops a.tmps) = true) (s x : Operand) (t : TypeId)
    (ho : o.op = .call { callee := .builtin .append, args := #[s, x], argTypes := #[t, t] })
    (base : Nat) (e : TypeId) (i : TypeInfo) (z : Value) (bytes : Nat) (ht : P.underlying t = some (.slice e)) (hi : P.info? e = some i) (hz : i.zero = some z)
    (hsize : i.size = Flat.sz α) (hby : i.bytes = bytes) (hzs : z.cells.size = Flat.sz α) (hb64 : bytes ≤ 64)
    (acc : List α) (k : Nat) (hk : acc.length = k) (A : Option Addr) (c : Nat) (hs : a.eval s = .slice A k c) (ys : List α) (n : Nat) (hn : ys.length = n) (B : Option Addr) (cy : Nat) (hx : a.eval x = .slice B n cy) (hrd : Rd w B ys)
    (hown : w.ownsRow base e (Flat.sz α) (.slice A k c) k (flat acc)) (hlen : k ≤ 1048576) (hlen2 : n ≤ 1048576) (hbase : base ≤ w.heap.size)
    (h : ∀ (A' : Option Addr) (c' : Nat) (w' : World), w'.ownsRow base e (Flat.sz α) (.slice A' (k + n) c') (k + n) (flat (acc ++ ys)) → (∀ u, Gw u w → u.heap.size ≤ base → Gw u w') → w.grownBy w' (Value.slice A k c).ownBlock →
      K (a.put o.dst (.slice A' (k + n) c')) w') :
    if Region.wanted o (yielded ops a.tmps) = true then Oper.wp P o a w K Q else E := by
  rw [if_pos hw]
  exact wp_cat s x t ho base e i z bytes ht hi hz hsize hby hzs hb64 acc k hk A c hs ys n hn B cy hx hrd hown hlen hlen2 hbase h
end
theorem s_reBookedN (A : Option Addr) (c n : Nat) (l : List B4) (w : World) (hn : l.length = n) (hl : n ≤ 1048576) (hA : Rd w A l) (hlc : n ≤ c) :
    Calls Try.prog 56 #[.slice A n c] w (Tells (BookP l) w) := by
  subst hn
  exact s_reBooked A c l w hl hA hlc

set_option maxHeartbeats 4000000 in
set_option maxRecDepth 100000 in
theorem s_reFirst (A : Option Addr) (cA : Nat) (W : List (Int × Int × Int)) (D : Option Addr) (cD n : Nat) (S : List B4) (r1 r2 : Int) (w : World) (hlW : W.length ≤ 1048576) (hA : Rd w A W) (hn : S.length = n) (h6 : n < 6) (hD : Rd w D S) (hW : WinsP W) (hS : BookP S) (hr : ReP r1 r2) :
    Calls Try.prog 68 #[.slice A W.length cA, .slice D n cD, .agg #[.int .i64 r1, .int .i64 r2]] w fun e w' => e = retB (firstV W S (r1, r2)).1 (firstV W S (r1, r2)).2 ∧ Gw w w' := by
  obtain ⟨i0, hi, hz0, hz1, hz2⟩ := info_parts infoBooked
  have HW := Lib.hid hW
  have HS := Lib.hid hS
  have HA := Lib.hid hA
  have HD := Lib.hid hD
  have Hn := Lib.hid hn
  have hr2 : (1 ≤ r1 ∧ r1 ≤ 9) ∧ 1 ≤ r2 ∧ r2 ≤ 12 := hr
  clear hn hA hD hW hS hr
  go_enter Try.func68, Try.ntmps68
  go_wp2_with fail
  have hbz : ∀ u, Gw ((w.alloc (.cells #[.int .i64 r1, .int .i64 r2] 59)).alloc (.cells #[.int .i64 0, .int .i64 0, .int .i64 0, .int .i64 0] 88)) u → (Gw w u ∧ u.cell? ⟨w.heap.size, 0, none⟩ = some (.int .i64 r1) ∧ u.cell? ⟨w.heap.size, 1, none⟩ = some (.int .i64 r2) ∧ BoxR u (w.heap.size + 1) #[.int .i64 0, .int .i64 0, .int .i64 0, .int .i64 0] 88) := fun u hu => by
    have q1 : Gw (w.alloc (.cells #[.int .i64 r1, .int .i64 r2] 59)) u := Gw.trans ((Gw.refl _).alloc _) hu
    have q2 := (BoxR.new (w.alloc (.cells #[.int .i64 r1, .int .i64 r2] 59)) #[.int .i64 0, .int .i64 0, .int .i64 0, .int .i64 0] 88).gw hu
    exact ⟨Gw.trans ((Gw.refl _).alloc _) q1, box_cell q1 rfl, box_cell q1 rfl, by simpa using q2⟩
  have Hbz := Lib.hid hbz
  clear hbz
  go_loopw [8] (fun f wr => ∃ F : Nat, f = .int .i64 F ∧ F ≤ 168 ∧ Hid (noneTo W S (r1, r2) F 1) ∧ Gw ((w.alloc (.cells #[.int .i64 r1, .int .i64 r2] 59)).alloc (.cells #[.int .i64 0, .int .i64 0, .int .i64 0, .int .i64 0] 88)) wr) (fun f _ => 168 - (intOf f).toNat)
  case atStart => exact ⟨0, by go_num, by omega, noneTo.zero HW.out, Gw.refl _⟩
  case round =>
    obtain ⟨wo, rfl⟩ : ∃ wo : World, wo = wr := ⟨_, rfl⟩
    obtain ⟨F, rfl, hF, hno, hgw⟩ := hrel
    obtain ⟨g1, c1, c2, bz⟩ := Hbz.out wo hgw
    have bzl := bz.lt
    have HG := Lib.hid hgw
    clear hgw
    by_cases hlt : (F : Int) + r2 ≤ 168
    · go_wp2_with fail
      go_loopw [9] (fun q w3 => ∃ P : Nat, q = .int .i64 ((P : Int) + 1) ∧ P ≤ 9 ∧ Hid (noneTo W S (r1, r2) F ((P : Int) + 1)) ∧ Gw wo w3) (fun q _ => 10 - (intOf q).toNat)
      case atStart => exact ⟨0, by go_num, by omega, hno, Gw.refl _⟩
      case round =>
        obtain ⟨P, rfl, hP, hnp, hgi⟩ := hrel
        have hgi2 := Gw.trans HG.out hgi
        obtain ⟨q1, d1, d2, bz2⟩ := Hbz.out wr hgi2
        by_cases hkl : P < 9
        · have hbz2 := bz2.lt
          have hws : w.heap.size < wr.heap.size := by omega
          go_wp2_with fail
          have hbx : ∀ j v, (#[Value.int .i64 r1, .int .i64 ((P : Int) + 1), .int .i64 (F : Int), .int .i64 ((F : Int) + r2)] : Array Value)[j]? = some v → (wr.alloc (.cells #[Value.int .i64 r1, .int .i64 ((P : Int) + 1), .int .i64 (F : Int), .int .i64 ((F : Int) + r2)] 88)).cell? ⟨wr.heap.size, j, none⟩ = some v := fun j v hj => box_cell (Gw.refl _) hj
          have x0 := hbx 0 _ rfl
          have x1 := hbx 1 _ rfl
          have x2 := hbx 2 _ rfl
          have x3 := hbx 3 _ rfl
          have hrB : Gw wr (wr.alloc (.cells #[Value.int .i64 r1, .int .i64 ((P : Int) + 1), .int .i64 (F : Int), .int .i64 ((F : Int) + r2)] 88)) := (Gw.refl _).alloc _
          have hBz : wr.heap.size < (wr.alloc (.cells #[Value.int .i64 r1, .int .i64 ((P : Int) + 1), .int .i64 (F : Int), .int .i64 ((F : Int) + r2)] 88)).heap.size := by simp
          clear hbx
          generalize (wr.alloc (.cells #[Value.int .i64 r1, .int .i64 ((P : Int) + 1), .int .i64 (F : Int), .int .i64 ((F : Int) + r2)] 88)) = B at *
          have hwB : Gw w B := Gw.trans q1 hrB
          have hks : ∀ u, Gw B u → (Gw B u ∧ u.cell? ⟨wr.heap.size, 0, none⟩ = some (.int .i64 r1) ∧ u.cell? ⟨wr.heap.size, 1, none⟩ = some (.int .i64 ((P : Int) + 1)) ∧ u.cell? ⟨wr.heap.size, 2, none⟩ = some (.int .i64 (F : Int)) ∧ u.cell? ⟨wr.heap.size, 3, none⟩ = some (.int .i64 ((F : Int) + r2))) := fun u hu =>
            ⟨hu, by rw [hu.cells _ _ hBz]; exact x0, by rw [hu.cells _ _ hBz]; exact x1, by rw [hu.cells _ _ hBz]; exact x2, by rw [hu.cells _ _ hBz]; exact x3⟩
          have Hks := Lib.hid hks
          have HDB := Lib.hid (HD.out.gw hwB)
          have HAB := Lib.hid (HA.out.gw hwB)
          have hgoB : Gw wo B := Gw.trans hgi hrB
          clear hks x0 x1 x2 x3
          by_cases hop : forP W ((P : Int) + 1) F ((F : Int) + r2)
          · obtain ⟨bk, hbk⟩ := bool_of (BookP (S ++ [(r1, (P : Int) + 1, (F : Int), (F : Int) + r2)]))
            have Hop := Lib.hid hop
            have Hbk := Lib.hid hbk
            clear hop hbk
            go_region_held3 (fun u => Gw B u ∧ u.cell? ⟨wr.heap.size, 0, none⟩ = some (.int .i64 r1) ∧ u.cell? ⟨wr.heap.size, 1, none⟩ = some (.int .i64 ((P : Int) + 1)) ∧ u.cell? ⟨wr.heap.size, 2, none⟩ = some (.int .i64 (F : Int)) ∧ u.cell? ⟨wr.heap.size, 3, none⟩ = some (.int .i64 ((F : Int) + r2))) (first | exact Hks.out _ (by (repeat (first | with_reducible exact Gw.refl _ | with_reducible assumption | ((with_reducible refine Gw.set ?_ ?_ _); rotate_left; (focus (first | (simp; done) | (simp; omega) | omega))) | with_reducible refine Gw.alloc ?_ _ | with_reducible refine Gw.drew ?_ | with_reducible refine Gw.drewN ?_ _ | (refine Gw.trans ?_ (by with_reducible assumption))))) | go_keep)
              (first
                | (go_at_call 79; refine ((s_reOpen _ _ _ _ _ _ _ hlW (HAB.out.gw (by (repeat (first | with_reducible exact Gw.refl _ | with_reducible assumption | ((with_reducible refine Gw.set ?_ ?_ _); rotate_left; (focus (first | (simp; done) | (simp; omega) | omega))) | with_reducible refine Gw.alloc ?_ _ | with_reducible refine Gw.drew ?_ | with_reducible refine Gw.drewN ?_ _ | (refine Gw.trans ?_ (by with_reducible assumption))))))).mono (tells_T Hop.out)).mono ?_; rintro e wz ⟨rfl, hbz⟩; have hgz : Gw B wz := Gw.trans (by (repeat (first | with_reducible exact Gw.refl _ | with_reducible assumption | ((with_reducible refine Gw.set ?_ ?_ _); rotate_left; (focus (first | (simp; done) | (simp; omega) | omega))) | with_reducible refine Gw.alloc ?_ _ | with_reducible refine Gw.drew ?_ | with_reducible refine Gw.drewN ?_ _ | (refine Gw.trans ?_ (by with_reducible assumption))))) hbz)
                | (refine step_catG (α := B4) (by rfl) (.tmp 39) (.tmp 40) 43 (by rfl) wz.heap.size 88 i0 _ 32 Try.underlying43 hi hz0 hz1 hz2 rfl (by omega) [] 0 rfl _ 0 (by rfl) S n Hn.out _ _ (by rfl) (HDB.out.gw (by (repeat (first | with_reducible exact Gw.refl _ | with_reducible assumption | ((with_reducible refine Gw.set ?_ ?_ _); rotate_left; (focus (first | (simp; done) | (simp; omega) | omega))) | with_reducible refine Gw.alloc ?_ _ | with_reducible refine Gw.drew ?_ | with_reducible refine Gw.drewN ?_ _ | (refine Gw.trans ?_ (by with_reducible assumption)))))) (by first | exact World.ownsRow_made wz #[] 0 (Nat.le_refl _) (by simp [maxLen]) (by simp) | exact (World.ownsRow_made wz #[] 0 (Nat.le_refl _) (by simp [maxLen]) (by simp)).alloc _ | exact ownB2 wz _ _ 4 _ (Nat.le_refl _)) (by omega) (by omega) (by first | (simp; done) | (simp; omega)) ?_; intro A7 c7 w7 hown7 hgg7 hgr7; have hgw7 : Gw wz w7 := hgg7 wz (by (repeat (first | with_reducible exact Gw.refl _ | with_reducible assumption | ((with_reducible refine Gw.set ?_ ?_ _); rotate_left; (focus (first | (simp; done) | (simp; omega) | omega))) | with_reducible refine Gw.alloc ?_ _ | with_reducible refine Gw.drew ?_ | with_reducible refine Gw.drewN ?_ _ | (refine Gw.trans ?_ (by with_reducible assumption))))) (Nat.le_refl _); have hgB7 : Gw B w7 := Gw.trans hgz hgw7; clear hgg7; simp only [List.nil_append, Nat.zero_add] at hown7; rw [show (0 + n : Nat) = n from Nat.zero_add _])
                | (refine step_catG (α := B4) (by rfl) (.tmp 41) (.tmp 43) 43 (by rfl) wz.heap.size 88 i0 _ 32 Try.underlying43 hi hz0 hz1 hz2 rfl (by omega) S n Hn.out _ _ (by rfl) [(r1, (P : Int) + 1, (F : Int), (F : Int) + r2)] 1 rfl _ 1 (by rfl) (by first | exact rdB w7 _ (r1, (P : Int) + 1, (F : Int), (F : Int) + r2) | exact (rdB2 wz _ _ (r1, (P : Int) + 1, (F : Int), (F : Int) + r2)).keep hgr7 (fun b' off' h => by simp only [Option.some.injEq, Addr.mk.injEq, and_true] at h; obtain ⟨rfl, _⟩ := h; simp [Value.ownBlock]) | exact ((rdB wz _ (r1, (P : Int) + 1, (F : Int), (F : Int) + r2)).gw ((Gw.refl _).alloc _)).keep hgr7 (fun b' off' h => by simp only [Option.some.injEq, Addr.mk.injEq, and_true] at h; obtain ⟨rfl, _⟩ := h; simp [Value.ownBlock])) (by first | exact hown7 | exact hown7.alloc _) (by omega) (by omega) (Gw.size (by (repeat (first | with_reducible exact Gw.refl _ | with_reducible assumption | ((with_reducible refine Gw.set ?_ ?_ _); rotate_left; (focus (first | (simp; done) | (simp; omega) | omega))) | with_reducible refine Gw.alloc ?_ _ | with_reducible refine Gw.drew ?_ | with_reducible refine Gw.drewN ?_ _ | (refine Gw.trans ?_ (by with_reducible assumption)))))) ?_; intro A8 c8 w8 hown8 hgg8 hgr8; have hgw8 : Gw wz w8 := hgg8 wz (by (repeat (first | with_reducible exact Gw.refl _ | with_reducible assumption | ((with_reducible refine Gw.set ?_ ?_ _); rotate_left; (focus (first | (simp; done) | (simp; omega) | omega))) | with_reducible refine Gw.alloc ?_ _ | with_reducible refine Gw.drew ?_ | with_reducible refine Gw.drewN ?_ _ | (refine Gw.trans ?_ (by with_reducible assumption))))) (Nat.le_refl _); have hgB8 : Gw B w8 := Gw.trans hgz hgw8; clear hgg8 hgr8)
                | (go_at_call 56; refine ((s_reBookedN _ _ (n + 1) (S ++ [(r1, (P : Int) + 1, (F : Int), (F : Int) + r2)]) _ (by rw [List.length_append, Hn.out]; rfl) (by omega) (own_rd (by rw [List.length_append, Hn.out]; exact hown8)) (own_capB hown8)).mono (tells_bool Hbk.out)).mono ?_; rintro e w9 ⟨rfl, hb9⟩; have hgB9 : Gw B w9 := Gw.trans hgB8 hb9)
                | fail)
            all_goals
              have hgo9 : Gw wr w9 := Gw.trans hrB hgB9
              have hw9 : Gw w w9 := Gw.trans q1 hgo9
              obtain ⟨-, b0, b1, b2, b3⟩ := Hks.out w9 hgB9
              have bz4 := bz2.gw hgo9
              have hbkp : BkP r1 ((P : Int) + 1) (F : Int) ((F : Int) + r2) := by omega
              have hsn := Lib.hid (bookP_snoc HS.out (by rw [Hn.out]; exact h6) hbkp)
              clear hbkp hown8 hown7 hgr7
              cases bk with
              | true =>
                have hok : okAt W S (r1, r2) F ((P : Int) + 1) := ⟨Hop.out, hsn.out.1 (Hbk.out.1 rfl)⟩
                have hfv : Hid (firstV W S (r1, r2) = ((r1, (P : Int) + 1, (F : Int), (F : Int) + r2), true)) := firstV_some (firstB_some (by omega) hlt hok hnp.out)
                have z0 := bz4.cell 0 rfl
                have z1 := bz4.cell 1 rfl
                have z2 := bz4.cell 2 rfl
                have z3 := bz4.cell 3 rfl
                have y0 := bz4.free 0
                have y1 := bz4.free 1
                have y2 := bz4.free 2
                have y3 := bz4.free 3
                have hq := (((bz4.set 0 (.int .i64 r1)).set 1 (.int .i64 ((P : Int) + 1))).set 2 (.int .i64 (F : Int))).set 3 (.int .i64 ((F : Int) + r2))
                have hgw4 : Gw w ((((w9.setCell ⟨w.heap.size + 1, 0, none⟩ (.int .i64 r1)).setCell ⟨w.heap.size + 1, 1, none⟩ (.int .i64 ((P : Int) + 1))).setCell ⟨w.heap.size + 1, 2, none⟩ (.int .i64 (F : Int))).setCell ⟨w.heap.size + 1, 3, none⟩ (.int .i64 ((F : Int) + r2))) := by (repeat (first | with_reducible exact Gw.refl _ | with_reducible assumption | ((with_reducible refine Gw.set ?_ ?_ _); rotate_left; (focus (first | (simp; done) | (simp; omega) | omega))) | with_reducible refine Gw.alloc ?_ _ | with_reducible refine Gw.drew ?_ | with_reducible refine Gw.drewN ?_ _ | (refine Gw.trans ?_ (by with_reducible assumption))))
                have Hq := Lib.hid hq
                clear hq hok
                go_wp2_with fail
                have q0 := Hq.out.cell 0 rfl
                have q1 := Hq.out.cell 1 rfl
                have q2 := Hq.out.cell 2 rfl
                have q3 := Hq.out.cell 3 rfl
                exact bodyPost_ret (v := .tuple #[.agg #[.int .i64 r1, .int .i64 ((P : Int) + 1), .int .i64 (F : Int), .int .i64 ((F : Int) + r2)], .bool true]) (by simp [results, Try.results68, go_sem, q0, q1, q2, q3]) rfl ⟨by rw [hfv.out], hgw4⟩
              | false =>
                have hnk : Hid (noneTo W S (r1, r2) F ((P : Int) + 1 + 1)) := noneTo.place hnp.out (fun h => by
                  have := Hbk.out.2 (hsn.out.2 h.2)
                  cases this)
                clear b0 b1 b2 b3
                go_wp2_with fail
                go_roundw
                case rel => exact ⟨P + 1, by go_num, by omega, by unfold Hid; rw [show ((P + 1 : Nat) : Int) + 1 = (P : Int) + 1 + 1 by omega]; exact hnk.out, Gw.trans hgi hgo9⟩
                case measure => simp [intOf]; omega
          · have hnk : Hid (noneTo W S (r1, r2) F ((P : Int) + 1 + 1)) := noneTo.place hnp.out (fun h => hop h.1)
            have Hop := Lib.hid hop
            clear hop
            obtain ⟨-, x0, x1, x2, x3⟩ := Hks.out B (Gw.refl _)
            go_wp2_with ((with_reducible refine wp_region_gw (by kernel_rfl) (by kernel_rfl) ?_); have hcq := @GwOf.cell; (repeat (go_big_quiet_step ((go_at_call 79; exact GwOf.callF Hop.out (s_reOpen _ _ _ _ _ _ _ hlW (HAB.out.gw (Gw.trans (by (repeat (first | with_reducible exact Gw.refl _ | with_reducible assumption | ((with_reducible refine Gw.set ?_ ?_ _); rotate_left; (focus (first | (simp; done) | (simp; omega) | omega))) | with_reducible refine Gw.alloc ?_ _ | with_reducible refine Gw.drew ?_ | with_reducible refine Gw.drewN ?_ _ | (refine Gw.trans ?_ (by with_reducible assumption))))) (GwOf.gw _)))))))); refine wpQuiet_nil ?_; clear hcq; rintro w' ⟨⟨w', hb⟩, rfl⟩; (try dsimp only); have hc := hb.cells; have hf := hb.frozens; have hz := hb.size; (try simp at hz); (try have hz0 : w.heap.size < w'.heap.size := (by omega)); (try have hz1 : w.heap.size + 1 < w'.heap.size := (by omega)); (try have hz2 : w.heap.size + 2 < w'.heap.size := (by omega)); (try have hz3 : w.heap.size + 3 < w'.heap.size := (by omega)); (try have hz4 : w.heap.size + 4 < w'.heap.size := (by omega)); (try have hz5 : w.heap.size + 5 < w'.heap.size := (by omega)))
            go_wp2_with fail
            go_roundw
            case rel => exact ⟨P + 1, by go_num, by omega, by unfold Hid; rw [show ((P + 1 : Nat) : Int) + 1 = (P : Int) + 1 + 1 by omega]; exact hnk.out, Gw.trans hgi (Gw.trans hrB (by assumption))⟩
            case measure => simp [intOf]; omega
        · have hn2 : Hid (noneTo W S (r1, r2) ((F : Int) + 1) 1) := noneTo.next HW.out (by have := hnp.out; rw [show ((P : Int) + 1) = 10 by omega] at this; exact this)
          go_wp2_with fail
          go_roundw
          case rel => exact ⟨F + 1, by go_num, by omega, by unfold Hid; rw [show ((F + 1 : Nat) : Int) = (F : Int) + 1 by omega]; exact hn2.out, hgi2⟩
          case measure => simp [intOf]; omega
    · have hfb : Hid (firstB W S (r1, r2) = none) := firstB_none (noneTo.last hno.out (by show (168 : Int) < _ + r2; omega))
      have hfv : Hid (firstV W S (r1, r2) = ((0, 0, 0, 0), false)) := firstV_none hfb.out
      have z0 := bz.cell 0 rfl
      have z1 := bz.cell 1 rfl
      have z2 := bz.cell 2 rfl
      have z3 := bz.cell 3 rfl
      have y0 := bz.free 0
      have y1 := bz.free 1
      have y2 := bz.free 2
      have y3 := bz.free 3
      have hq := (((bz.set 0 (.int .i64 0)).set 1 (.int .i64 0)).set 2 (.int .i64 0)).set 3 (.int .i64 0)
      have hgw4 : Gw w ((((wo.setCell ⟨w.heap.size + 1, 0, none⟩ (.int .i64 0)).setCell ⟨w.heap.size + 1, 1, none⟩ (.int .i64 0)).setCell ⟨w.heap.size + 1, 2, none⟩ (.int .i64 0)).setCell ⟨w.heap.size + 1, 3, none⟩ (.int .i64 0)) := by (repeat (first | with_reducible exact Gw.refl _ | with_reducible assumption | ((with_reducible refine Gw.set ?_ ?_ _); rotate_left; (focus (first | (simp; done) | (simp; omega) | omega))) | with_reducible refine Gw.alloc ?_ _ | with_reducible refine Gw.drew ?_ | with_reducible refine Gw.drewN ?_ _ | (refine Gw.trans ?_ (by with_reducible assumption))))
      have Hq := Lib.hid hq
      clear hq
      go_wp2_with fail
      have q0 := Hq.out.cell 0 rfl
      have q1 := Hq.out.cell 1 rfl
      have q2 := Hq.out.cell 2 rfl
      have q3 := Hq.out.cell 3 rfl
      exact bodyPost_ret (v := .tuple #[.agg #[.int .i64 0, .int .i64 0, .int .i64 0, .int .i64 0], .bool false]) (by simp [results, Try.results68, go_sem, q0, q1, q2, q3]) rfl ⟨by rw [hfv.out], hgw4⟩
end Go.Proofs.Ytipndibiioajmaa
