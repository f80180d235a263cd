/-
  Edits between two charts: the program's way, all of it.
-/
import Derived.Test.YtoofpajeogllhaaBetI
namespace Go.Proofs.Ytoofpajeogllhaa
open Go.RowKit

theorem i_fitsN (A : Option Addr) (cap n : Nat) (l : List Sp) (e p b1 b2 a1 a2 : Int) (w : World) (hn : l.length = n) (hl : n ≤ 1048576) (hA : Rd w A l) (hp : 0 ≤ p) :
    Calls Try.prog 27 #[.slice A n cap, .agg #[.int .i64 e, .int .i64 p, .int .i64 b1, .int .i64 b2, .int .i64 a1, .int .i64 a2]] w (Tells (FitP l p b1 b2 a1 a2) w) := by
  subst hn
  exact i_fits A cap l e p b1 b2 a1 a2 w hl hA hp
theorem fit_free {now b : List Sp} {i : Nat} {x y : Sp} (hx : now[i]? = some x) (hy : b[i]? = some y) : FitP now (i : Int) x.1 x.2 y.1 y.2 ↔ free now b i = true := by
  rw [free_at hy]
  constructor
  · intro h
    simpa using h.2.2
  · intro h
    exact ⟨by omega, by simpa using hx, by simpa using h⟩
theorem nI_get {l : List Nat} {k i : Nat} (h : l[k]? = some i) : (nI l)[k]? = some (i : Int) := by simp [nI, h]
theorem nI_del (l : List Nat) (k : Nat) : (nI l).take k ++ (nI l).drop (k + 1) = nI (l.take k ++ l.drop (k + 1)) := by simp [nI]
def slLn : Value → Nat
  | .slice _ n _ => n
  | _ => 0

/-- What stands at the head of a round. -/
structure BetIn (ed : Int) (b : List Sp) (L g cN : Nat) (R : Option (List Ed)) (w : World) (now : List Sp) (acc : List Ed) (m : Nat) (D : Option Addr) (d : Nat) (E : Option Addr) (c : Nat) (wr : World) : Prop where
  nl : now.length = L
  len : (diffs now b).length = m
  twelve : acc.length + m ≤ 12
  left : wr.ownsRow w.heap.size 3 1 (.slice E m c) m (flat (nI (diffs now b)))
  out : wr.ownsRow w.heap.size 28 6 (.slice D acc.length d) acc.length (flat acc)
  at_ : wr.ownsRow w.heap.size 26 2 (.slice (some ⟨g, 0, none⟩) L cN) L (flat now)
  bt : btGo ed b m now acc = R
  gw : Gw w wr
theorem BetIn.later {ed : Int} {b : List Sp} {L g cN : Nat} {R : Option (List Ed)} {w : World} {now : List Sp} {acc : List Ed} {m : Nat} {D : Option Addr} {d : Nat} {E : Option Addr} {c : Nat} {wr wr' : World} (h : BetIn ed b L g cN R w now acc m D d E c wr) (hg : Gw wr wr') :
    BetIn ed b L g cN R w now acc m D d E c wr' :=
  ⟨h.nl, h.len, h.twelve, own_gw h.left hg, own_gw h.out hg, own_gw h.at_ hg, h.bt, Gw.trans h.gw hg⟩
/-- What the search through the differences has seen. -/
def BetSr (b now : List Sp) (m : Nat) (E : Option Addr) (c : Nat) (D : Option Addr) (n d : Nat) (wo : World) (lf o f q : Value) (wr : World) : Prop :=
  ∃ k : Nat, q = .int .i64 k ∧ k ≤ m ∧ lf = .slice E m c ∧ o = .slice D n d ∧ f = .bool false ∧ Hid (AllTo (fun j => free now b j = false) (diffs now b) k) ∧ Gw wo wr

theorem own_madeN (w : World) (o : Obj) (e : TypeId) (size base : Nat) (hb : base ≤ w.heap.size) : ((w.alloc o).alloc (.cells #[] e)).ownsRow base e size (.slice (some ⟨w.heap.size + 1, 0, none⟩) 0 0) 0 [] := by
  have := World.ownsRow_made (base := base) (e := e) (size := size) (w.alloc o) #[] 0 (by simp; omega) (by simp [maxLen]) (by simp)
  simpa using this

set_option maxHeartbeats 4000000 in
set_option maxRecDepth 100000 in
theorem i_EditsBetween (A : Option Addr) (cA : Nat) (a : List Sp) (B : Option Addr) (cB : Nat) (b : List Sp) (ed : Int) (w : World) (hla : a.length ≤ 1048576) (hA : Rd w A a) (hca : a.length ≤ cA) (hlb : b.length ≤ 1048576) (hB : Rd w B b) (hcb : b.length ≤ cB) :
    Calls Try.prog 16 #[.slice A a.length cA, .slice B b.length cB, .int .i64 ed] w fun e w' => ∃ A c, e = .returned (.tuple #[.slice A (betF a b ed).1.length c, .bool (betF a b ed).2]) ∧
      w'.ownsRow w.heap.size 28 6 (.slice A (betF a b ed).1.length c) (betF a b ed).1.length (flat (betF a b ed).1) ∧ Gw w w' := by
  obtain ⟨i0, hi, hz0, hz1, hz2⟩ := info_parts infoEdit
  obtain ⟨i1, hi', hz0', hz1', hz2'⟩ := info_parts infoSpot
  have HB := Lib.hid hB
  have HA := Lib.hid hA
  go_enter Try.func16, Try.ntmps16
  go_wp2_with fail
  refine (i_ChangedSpots _ _ _ _ _ _ _ hla hA hca hlb hB hcb).mono ?_
  rintro _ w1 ⟨E1, c1, rfl, hleft, hb1⟩
  by_cases hP : PairP a b
  case neg =>
    have hc := Lib.hid (chgF_bad hP)
    have hno := Lib.hid (betF_bad (a := a) (b := b) (ed := ed) (fun h => hP h.1))
    rw [hc.out]
    clear hP hleft
    go_wp2_with fail
    go_ret2
    exact ⟨none, 0, ret_lb (A := none) (c := 0) hno.out, by rw [hno.out]; exact World.ownsRow_nil _ _ _ _, by (repeat (first | with_reducible exact Gw.refl _ | with_reducible assumption | ((with_reducible refine Gw.set ?_ ?_ _); rotate_left; (focus (first | (simp; done) | (simp; omega) | omega))) | with_reducible refine Gw.alloc ?_ _ | with_reducible refine Gw.drew ?_ | with_reducible refine Gw.drewN ?_ _ | (refine Gw.trans ?_ (by with_reducible assumption))))⟩
  have hc := Lib.hid (chgF_good hP)
  rw [hc.out] at hleft ⊢
  dsimp only at hleft ⊢
  obtain ⟨m0, hm0⟩ : ∃ m, Hid ((diffs a b).length = m) := ⟨_, rfl⟩
  rw [hm0.out] at hleft ⊢
  have HP := Lib.hid hP
  clear hP hA hB
  go_wp2_with fail
  refine (i_isEditor _ _).mono ?_
  rintro _ _ (⟨hp, rfl, rfl⟩ | ⟨hp, rfl, rfl⟩)
  case inr =>
    have hno := Lib.hid (betF_bad (a := a) (b := b) (ed := ed) (fun h => hp h.2))
    clear hp
    go_wp2_with fail
    go_ret2
    exact ⟨none, 0, ret_lb (A := none) (c := 0) hno.out, by rw [hno.out]; exact World.ownsRow_nil _ _ _ _, by (repeat (first | with_reducible exact Gw.refl _ | with_reducible assumption | ((with_reducible refine Gw.set ?_ ?_ _); rotate_left; (focus (first | (simp; done) | (simp; omega) | omega))) | with_reducible refine Gw.alloc ?_ _ | with_reducible refine Gw.drew ?_ | with_reducible refine Gw.drewN ?_ _ | (refine Gw.trans ?_ (by with_reducible assumption))))⟩
  have HE := Lib.hid hp
  clear hp
  have hab := Lib.hid HP.out.2
  have h12 := HP.out.1.1.2.2
  have h1 := HP.out.1.1.2.1
  have hsome : Hid (∀ r, btGo ed b (diffs a b).length a [] = some r → betF a b ed = (r, true)) := fun r hr => betF_some ⟨HP.out, HE.out⟩ hr
  have hnone : Hid (btGo ed b (diffs a b).length a [] = none → betF a b ed = ([], false)) := fun hr => betF_none ⟨HP.out, HE.out⟩ hr
  have hb1z := hb1.size
  go_wp2_with (at_builtin; refine wpList_cat2 (α := Sp) rfl (.tmp 30) (.tmp 31) 24 rfl w.heap.size 26 i1 _ 16 Try.underlying24 hi' hz0' hz1' hz2' rfl (by omega) [] 0 rfl (some ⟨w1.heap.size + 1, 0, none⟩) 0 rfl a a.length rfl A cA rfl (HA.out.gw (by (repeat (first | with_reducible exact Gw.refl _ | with_reducible assumption | ((with_reducible refine Gw.set ?_ ?_ _); rotate_left; (focus (first | (simp; done) | (simp; omega) | omega))) | with_reducible refine Gw.alloc ?_ _ | with_reducible refine Gw.drew ?_ | with_reducible refine Gw.drewN ?_ _ | (refine Gw.trans ?_ (by with_reducible assumption)))))) (own_madeN w1 _ _ 2 _ hb1z) (by omega) hla (by simp; omega) ?_; intro N cN w4 hnow hgg hgr; have hG4 : Gw w w4 := hgg w (by (repeat (first | with_reducible exact Gw.refl _ | with_reducible assumption | ((with_reducible refine Gw.set ?_ ?_ _); rotate_left; (focus (first | (simp; done) | (simp; omega) | omega))) | with_reducible refine Gw.alloc ?_ _ | with_reducible refine Gw.drew ?_ | with_reducible refine Gw.drewN ?_ _ | (refine Gw.trans ?_ (by with_reducible assumption))))) (Nat.le_refl _); clear hgg)
  have hout := own_beside (by decide) ((World.ownsRow_made (base := w.heap.size) (e := 28) (size := 6) w1 #[] 0 hb1z (by simp [maxLen]) (by simp)).alloc (.cells #[] 26)) (own_madeN w1 (.cells #[] 28) 26 2 w.heap.size hb1z) hgr
  have hleft4 := own_beside (by decide) ((hleft.alloc (.cells #[] 28)).alloc (.cells #[] 26)) (own_madeN w1 (.cells #[] 28) 26 2 w.heap.size hb1z) hgr
  obtain ⟨L, hL⟩ : ∃ L, Hid (a.length = L) := ⟨_, rfl⟩
  obtain ⟨R, hR⟩ : ∃ R, Hid (btGo ed b (diffs a b).length a [] = R) := ⟨_, rfl⟩
  rw [hR.out] at hsome hnone
  have hd0 : (diffs a b).length ≤ 12 := Nat.le_trans (diffTo_len a b a.length) h12
  have hR' : btGo ed b m0 a [] = R := by rw [← hm0.out]; exact hR.out
  simp only [List.nil_append, Nat.zero_add] at hnow
  obtain ⟨g, rfl, hg1, hg2⟩ := own_addr hnow (by omega)
  have hbl : Hid (b.length = L) := by unfold Hid; rw [← hab.out]; exact hL.out
  have hL12 : L ≤ 12 := by rw [← hL.out]; exact h12
  have hL1 : 1 ≤ L := by rw [← hL.out]; exact h1
  rw [hL.out] at hnow
  have hst0 : BetIn ed b L g cN R w a [] m0 (some ⟨w1.heap.size, 0, none⟩) 0 E1 c1 w4 := ⟨hL.out, hm0.out, by rw [hm0.out] at hd0; simpa using hd0, hleft4, hout, hnow, hR', hG4⟩
  have Hst0 := Lib.hid hst0
  have hlL : Hid (0 + a.length = L) := by unfold Hid; rw [Nat.zero_add]; exact hL.out
  clear hab h12 hca h1 hla hleft hleft4 hout hnow hR' hst0 hgr hd0
  rw [hbl.out] at hlb hcb
  rw [hL.out, hbl.out]
  go_loopw [8, 10] (fun lf o wr => ∃ (now : List Sp) (acc : List Ed) (m : Nat) (D : Option Addr) (d : Nat) (E : Option Addr) (c : Nat), lf = .slice E m c ∧ o = .slice D acc.length d ∧ BetIn ed b L g cN R w now acc m D d E c wr) (fun lf _ _ => slLn lf)
  case atStart => exact ⟨a, [], m0, _, 0, E1, c1, rfl, rfl, Hst0.out⟩
  case round =>
    obtain ⟨wo, rfl⟩ : ∃ wo : World, wo = wr := ⟨_, rfl⟩
    obtain ⟨now, acc, m, D, d, E, c, rfl, rfl, hst⟩ := hrel
    have Hst := Lib.hid hst
    have h12 := hst.twelve
    have hgz := hst.gw.size
    clear hst Hst0
    by_cases hm0 : m = 0
    · subst hm0
      have hfin : Hid (betF a b ed = (acc, true)) := hsome.out acc (by rw [← Hst.out.bt]; exact btGo_end 0 (List.eq_nil_of_length_eq_zero Hst.out.len))
      go_wp2_with fail
      go_ret2
      exact ⟨D, d, ret_lb hfin.out, by rw [hfin.out]; exact Hst.out.out, Hst.out.gw⟩
    · have hmp : 0 < m := by omega
      have hne : Hid (diffs now b ≠ []) := fun h => hm0 (by rw [← Hst.out.len, h]; rfl)
      go_wp2_with fail
      go_loopw [8, 10, 12, 38] (fun lf o f q wr => BetSr b now m E c D acc.length d wo lf o f q wr) (fun _ _ _ q _ => m - (intOf q).toNat)
      case atStart => unfold BetSr; exact ⟨0, by go_num, Nat.zero_le _, rfl, rfl, rfl, AllTo.zero, Gw.refl _⟩
      case round =>
        unfold BetSr at hrel
        obtain ⟨k, rfl, hk, rfl, rfl, rfl, hall, hgi⟩ := hrel
        by_cases hkm : k < m
        · have hwst := Lib.hid (Hst.out.later hgi)
          obtain ⟨i, hdi⟩ := get_of_lt (l := diffs now b) (k := k) (by rw [Hst.out.len]; exact hkm)
          have hil := (mem_diffTo.1 (mem_of_get hdi)).1
          rw [Hst.out.nl] at hil
          obtain ⟨x, hx⟩ := get_of_lt (l := now) (k := i) (by rw [Hst.out.nl]; exact hil)
          obtain ⟨y, hy⟩ := get_of_lt (l := b) (k := i) (by rw [hbl.out]; exact hil)
          obtain ⟨gE, rfl, hgE1, hgE2⟩ := own_addr Hst.out.left hmp
          have hlr : Rd wr (some ⟨gE, 0, none⟩) (nI (diffs now b)) := by
            have hq := hwst.out.left
            have hn : (nI (diffs now b)).length = m := by simp [nI, Hst.out.len]
            exact own_rd (α := Int) (by rw [hn]; exact hq)
          obtain ⟨bl, ol, hAe, hbbl, cl⟩ := hlr.get1 (nI_get hdi)
          simp only [Option.some.injEq, Addr.mk.injEq, and_true] at hAe
          obtain ⟨rfl, rfl⟩ := hAe
          rw [Nat.zero_add] at cl
          have hcn := own_cells2 hwst.out.at_ Hst.out.nl hx
          obtain ⟨b2, off2, hBe, hbb2, d0, d1⟩ := HB.out.get2 hy
          subst hBe
          have hff := Lib.hid (fit_free hx hy)
          have hfd := Lib.hid (free_at (now := now) hy)
          obtain ⟨x1, x2⟩ := x
          obtain ⟨y1, y2⟩ := y
          dsimp only at hcn d0 d1
          have hks : ∀ u, Gw wr u → (u.cell? ⟨g, i * 2, none⟩ = some (.int .i64 x1) ∧ u.cell? ⟨g, i * 2 + 1, none⟩ = some (.int .i64 x2) ∧ u.cell? ⟨b2, off2 + i * 2, none⟩ = some (.int .i64 y1) ∧ u.cell? ⟨b2, off2 + i * 2 + 1, none⟩ = some (.int .i64 y2)) := fun u hu => by
            have hgt := (hwst.out.at_.lt g rfl).2
            have hw := Gw.trans hwst.out.gw hu
            exact ⟨by rw [hu.cells _ _ hgt]; exact hcn.1, by rw [hu.cells _ _ hgt]; exact hcn.2, by rw [hw.cells _ _ hbb2]; exact d0, by rw [hw.cells _ _ hbb2]; exact d1⟩
          have Hks := Lib.hid hks
          have Hdi := Lib.hid hdi
          have Hx := Lib.hid hx
          have Hy := Lib.hid hy
          have hgt := (hwst.out.at_.lt g rfl).2
          have hwz := hwst.out.gw.size
          clear hks hdi hx hy hcn d0 d1 hlr
          have bi0 : (0 : Int) ≤ (i : Int) := by omega
          have bi1 : (i : Int) < (L : Int) := by omega
          go_wp2_with fail
          go_region_held3 (fun u => u.cell? ⟨g, i * 2, none⟩ = some (.int .i64 x1) ∧ u.cell? ⟨g, i * 2 + 1, none⟩ = some (.int .i64 x2) ∧ u.cell? ⟨b2, off2 + i * 2, none⟩ = some (.int .i64 y1) ∧ u.cell? ⟨b2, off2 + i * 2 + 1, none⟩ = some (.int .i64 y2)) (first | exact Hks.out _ (by (repeat (first | with_reducible exact Gw.refl _ | with_reducible assumption | ((with_reducible refine Gw.set ?_ ?_ _); rotate_left; (focus (first | (simp; done) | (simp; omega) | omega))) | with_reducible refine Gw.alloc ?_ _ | with_reducible refine Gw.drew ?_ | with_reducible refine Gw.drewN ?_ _ | (refine Gw.trans ?_ (by with_reducible assumption))))) | go_keep) (first | fail)
          have hrdn : Rd wr (some ⟨g, 0, none⟩) now := own_rd (α := Sp) (by rw [Hst.out.nl]; exact hwst.out.at_)
          go_wp2_with fail
          refine (i_fitsN _ _ _ now _ _ _ _ _ _ _ Hst.out.nl (by omega) (hrdn.gw (by (repeat (first | with_reducible exact Gw.refl _ | with_reducible assumption | ((with_reducible refine Gw.set ?_ ?_ _); rotate_left; (focus (first | (simp; done) | (simp; omega) | omega))) | with_reducible refine Gw.alloc ?_ _ | with_reducible refine Gw.drew ?_ | with_reducible refine Gw.drewN ?_ _ | (refine Gw.trans ?_ (by with_reducible assumption)))))) bi0).mono ?_
          rintro _ w6 (⟨hp, rfl, hb6⟩ | ⟨hp, rfl, hb6⟩)
          · have hfr := Lib.hid (hff.out.1 hp)
            clear hp hrdn
            have hbx : Gw (wr.alloc (.cells #[.int .i64 ed, .int .i64 (i : Int), .int .i64 x1, .int .i64 x2, .int .i64 y1, .int .i64 y2] 28)) w6 := Gw.trans (Gw.refl _).drew hb6
            have hG6 : Gw wr w6 := by (repeat (first | with_reducible exact Gw.refl _ | with_reducible assumption | ((with_reducible refine Gw.set ?_ ?_ _); rotate_left; (focus (first | (simp; done) | (simp; omega) | omega))) | with_reducible refine Gw.alloc ?_ _ | with_reducible refine Gw.drew ?_ | with_reducible refine Gw.drewN ?_ _ | (refine Gw.trans ?_ (by with_reducible assumption))))
            have st6 := hwst.out.later hG6
            have r := own_set2 (k := i) st6.at_ (y1, y2)
            have out7 := Lib.hid (own_beside (by decide) st6.out st6.at_ r.2)
            have left7 := Lib.hid (own_beside (by decide) st6.left st6.at_ r.2)
            have at7 := Lib.hid r.1
            have hg7 := Lib.hid (st6.gw.grown r.2 (fun j hj => by simp at hj; subst hj; exact hg1))
            have hz6 := hbx.size
            (try simp at hz6)
            obtain ⟨n0, n1, n2, n3⟩ := Hks.out w6 hG6
            have fz0 := World.ownsRow.frozenAt st6.at_ (i * 2)
            have fz1 := World.ownsRow.frozenAt st6.at_ (i * 2 + 1)
            have hcb := Lib.hid (fun (j : Nat) (v : Value) (hj : (#[Value.int .i64 ed, .int .i64 (i : Int), .int .i64 x1, .int .i64 x2, .int .i64 y1, .int .i64 y2] : Array Value)[j]? = some v) => box_cell hbx hj)
            have q0 := hcb.out 0 _ rfl
            have q1 := hcb.out 1 _ rfl
            have q2 := hcb.out 2 _ rfl
            have q3 := hcb.out 3 _ rfl
            have q4 := hcb.out 4 _ rfl
            have q5 := hcb.out 5 _ rfl
            have hne1 : ¬(g = wr.heap.size) := by omega
            have hne2 : ¬(wr.heap.size = g) := by omega
            have hgz6 := st6.gw.size
            clear r st6
            go_wp2_with (at_builtin; refine wpList_push (α := Ed) rfl (.tmp 64) (.tmp 66) 36 rfl w.heap.size 28 i0 _ 48 Try.underlying36 hi hz0 hz1 hz2 rfl (by omega) acc D d rfl _ (ed, (i : Int), x1, x2, y1, y2) rfl w6.heap.size (by simp) rfl out7.out (by omega) (hg7.out.size) ?_; intro acc8 A8 c8 w8 hacc8 hl1 hl2 hown8 hgr8 hgg8; have left8 := own_beside (by decide) (left7.out.alloc _) (out7.out.alloc _) hgr8; have at8 := own_beside (by decide) (at7.out.alloc _) (out7.out.alloc _) hgr8; have hgw8 : Gw w w8 := hgg8 w hg7.out (Nat.le_refl _); clear hgg8 hgr8)
            have hdn := diffs_step Hdi.out Hy.out
            have hdl2 : Hid ((diffs (now.set i (y1, y2)) b).length = m - 1) := by
              unfold Hid
              rw [hdn, List.length_append, List.length_take, List.length_drop, Hst.out.len]
              omega
            have hbs := btGo_step (ed := ed) (acc := acc) Hdi.out (find_at hall.out Hdi.out hfr.out) Hx.out Hy.out
            rw [Hst.out.len, hdl2.out, Hst.out.bt] at hbs
            dsimp only at hbs
            rw [← hacc8.out] at hbs
            have hnl2 : (nI (diffs now b)).length = m := by simp [nI, Hst.out.len]
            have Hbs := Lib.hid hbs
            have Hdn := Lib.hid hdn
            have Hnl := Lib.hid hnl2
            clear hbs hdn hnl2 q0 q1 q2 q3 q4 q5 n0 n1 n2 n3 fz0 fz1
            have hdel := i_Delete gE c m k w.heap.size (nI (diffs now b)) w8 Hnl.out hkm (by omega) left8
            have Hdel := Lib.hid hdel
            clear hdel
            go_wp2_with fail
            refine Hdel.out.mono ?_
            rintro _ w9 ⟨rfl, left9, hgr9⟩
            rw [nI_del, ← Hdn.out] at left9
            have out9 := own_beside (by decide) hown8 left8 hgr9
            have at9 := own_beside (by decide) at8 left8 hgr9
            have hgw9 := hgw8.grown hgr9 (fun j hj => by simp at hj; subst hj; exact hgE1)
            have hst9 : BetIn ed b L g cN R w (now.set i (y1, y2)) acc8 (m - 1) A8 c8 (some ⟨gE, 0, none⟩) c w9 := ⟨by rw [List.length_set]; exact Hst.out.nl, hdl2.out, by omega, left9, out9, at9, Hbs.out.symm, hgw9⟩
            have Hst9 := Lib.hid hst9
            clear hst9 left9 out9 at9 left8 at8 hown8
            go_wp2_with fail
            go_roundw
            case rel => exact ⟨now.set i (y1, y2), acc8, m - 1, A8, c8, some ⟨gE, 0, none⟩, c, rfl, rfl, Hst9.out⟩
            case measure => simp [slLn]; omega
          · have hfr : Hid (free now b i = false) := by
              unfold Hid
              cases hq : free now b i with
              | false => rfl
              | true => exact absurd (hff.out.2 hq) hp
            clear hp hrdn
            go_wp2_with fail
            go_roundw
            case rel => unfold BetSr; exact ⟨k + 1, by go_num, by omega, rfl, rfl, rfl, AllTo.succ hall.out Hdi.out hfr.out, by (repeat (first | with_reducible exact Gw.refl _ | with_reducible assumption | ((with_reducible refine Gw.set ?_ ?_ _); rotate_left; (focus (first | (simp; done) | (simp; omega) | omega))) | with_reducible refine Gw.alloc ?_ _ | with_reducible refine Gw.drew ?_ | with_reducible refine Gw.drewN ?_ _ | (refine Gw.trans ?_ (by with_reducible assumption))))⟩
            case measure => simp [intOf]; omega
        · have hfin : Hid (betF a b ed = ([], false)) := hnone.out (by
            rw [← Hst.out.bt]
            refine btGo_no m hne.out (find_no ?_)
            rw [Hst.out.len]
            have : k = m := by omega
            rw [← this]
            exact hall.out)
          have hgw2 := Gw.trans Hst.out.gw hgi
          go_wp2_with fail
          go_ret2
          exact ⟨none, 0, ret_lb (A := none) (c := 0) hfin.out, by rw [hfin.out]; exact World.ownsRow_nil _ _ _ _, hgw2⟩
end Go.Proofs.Ytoofpajeogllhaa
