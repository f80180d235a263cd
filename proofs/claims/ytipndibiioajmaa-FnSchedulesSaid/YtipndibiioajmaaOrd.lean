/-
  All orders: the program's list of lists.
-/
import Derived.Test.YtipndibiioajmaaBestP
import Derived.Test.YtipndibiioajmaaStep
import Derived.Test.YtipndibiioajmaaTyInt
namespace Go.Proofs.Ytipndibiioajmaa
open Go.RowKit

abbrev SV := Option Addr × Nat × Nat
abbrev SV.val (x : SV) : Value := .slice x.1 x.2.1 x.2.2
instance : Flat SV where
  sz := 1
  cells := fun x => [x.val]
  len := fun _ => rfl
  one := fun x u hu => by simp at hu; subst hu <;> rfl
  pos := by omega
theorem Rd.getV {w : World} {A : Option Addr} {l : List SV} {k : Nat} {x : SV} (h : Rd w A l) (hi : l[k]? = some x) : ∃ b off, A = some ⟨b, off, none⟩ ∧ b < w.heap.size ∧ w.cell? ⟨b, off + k, none⟩ = some (.slice x.1 x.2.1 x.2.2) := by
  obtain ⟨b, off, hA, hb, hc⟩ := h.get hi
  have h0 := hc 0 _ rfl
  simp only [show Flat.sz SV = 1 from rfl, Nat.mul_one, Nat.add_zero] at h0
  exact ⟨b, off, hA, hb, h0⟩
theorem types_apart {w : World} {base base' s s' : Nat} {e e' : TypeId} {n n' : Nat} {v v' : Value} {xs xs' : List Value} (he : e ≠ e') (h : w.ownsRow base e s v n xs) (h' : w.ownsRow base' e' s' v' n' xs') {g : Nat} (hg : v.ownBlock = some g) : v'.ownBlock ≠ some g := by
  intro hg'
  rcases h.2 with ⟨rfl, _⟩ | ⟨g1, cap, cur, rfl, hb, hc, hc1, hm, hh⟩
  · simp [Value.ownBlock] at hg
  · rcases h'.2 with ⟨rfl, _⟩ | ⟨g2, cap', cur', rfl, hb', hc', hc1', hm', hh'⟩
    · simp [Value.ownBlock] at hg'
    · simp [Value.ownBlock] at hg hg'
      subst hg
      subst hg'
      simp_all
theorem own_besideT {w w' : World} {base base' s s' : Nat} {e e' : TypeId} {n n' : Nat} {v v' : Value} {xs xs' : List Value} (he : e ≠ e') (h : w.ownsRow base e s v n xs) (h' : w.ownsRow base' e' s' v' n' xs') (hg : w.grownBy w' v'.ownBlock) : w'.ownsRow base e s v n xs := by
  refine h.kept hg ?_
  cases hv : v.ownBlock with
  | none => exact .inl rfl
  | some k => exact .inr fun e => types_apart he h h' hv e.symm
theorem own_one {α : Type} [Flat α] (w : World) {e : TypeId} (y : α) {base : Nat} (hb : base ≤ w.heap.size) : (w.alloc (.cells (Flat.cells y).toArray e)).ownsRow base e (Flat.sz α) (.slice (some ⟨w.heap.size, 0, none⟩) 1 1) 1 (flat [y]) := by
  refine ⟨by rw [flat_len, List.length_singleton], .inr ⟨w.heap.size, 1, (Flat.cells y).toArray, rfl, hb, heap_alloc_new w _, Nat.le_refl _, by simp [maxLen], by simp [Flat.len], ?_⟩⟩
  rw [flat_one, List.take_of_length_le (by simp [Flat.len])]
/-- A list of integers of the call's own, which is not nil. -/
def OwnI (w : World) (base : Nat) (x : SV) (r : List Int) : Prop := (∃ g, x.1 = some ⟨g, 0, none⟩) ∧ x.2.1 = r.length ∧ w.ownsRow base 3 1 (.slice x.1 r.length x.2.2) r.length (flat r)
theorem OwnI.gw {w w' : World} {base : Nat} {x : SV} {r : List Int} (h : OwnI w base x r) (hg : Gw w w') : OwnI w' base x r := ⟨h.1, h.2.1, own_gw h.2.2 hg⟩
theorem OwnI.lower {w : World} {base base' : Nat} {x : SV} {r : List Int} (h : OwnI w base x r) (hb : base' ≤ base) : OwnI w base' x r := ⟨h.1, h.2.1, own_lower h.2.2 hb⟩
/-- A list of such lists. -/
structure OutL (w : World) (ob base : Nat) (A : Option Addr) (n c : Nat) (sv : List SV) (rs : List (List Int)) : Prop where
  num : sv.length = n
  own : w.ownsRow ob 26 1 (.slice A n c) n (flat sv)
  len : sv.length = rs.length
  inner : ∀ (k : Nat) (x : SV) r, sv[k]? = some x → rs[k]? = some r → OwnI w base x r
theorem OutL.gw {w w' : World} {ob base : Nat} {A : Option Addr} {n c : Nat} {sv : List SV} {rs : List (List Int)} (h : OutL w ob base A n c sv rs) (hg : Gw w w') : OutL w' ob base A n c sv rs :=
  ⟨h.num, own_gw h.own hg, h.len, fun k x r hx hr => (h.inner k x r hx hr).gw hg⟩
theorem OutL.cat {w w' : World} {ob ob2 base : Nat} {A A2 A' : Option Addr} {n n2 c c2 c' : Nat} {sv sv2 : List SV} {rs rs2 : List (List Int)} (h : OutL w ob base A n c sv rs) (h2 : OutL w ob2 base A2 n2 c2 sv2 rs2)
    (hg : w.grownBy w' (Value.slice A n c).ownBlock) (ho : w'.ownsRow ob 26 1 (.slice A' (n + n2) c') (n + n2) (flat (sv ++ sv2))) : OutL w' ob base A' (n + n2) c' (sv ++ sv2) (rs ++ rs2) := by
  have key : ∀ {x : SV} {r : List Int}, OwnI w base x r → OwnI w' base x r := fun hx => ⟨hx.1, hx.2.1, own_besideT (by decide) hx.2.2 h.own hg⟩
  refine ⟨by rw [List.length_append, h.num, h2.num], ho, by rw [List.length_append, List.length_append, h.len, h2.len], fun k x r hx hr => ?_⟩
  by_cases hk : k < sv.length
  · rw [List.getElem?_append_left hk] at hx
    rw [List.getElem?_append_left (by rw [← h.len]; exact hk)] at hr
    exact key (h.inner k x r hx hr)
  · rw [List.getElem?_append_right (by omega)] at hx
    rw [List.getElem?_append_right (by rw [← h.len]; omega), ← h.len] at hr
    exact key (h2.inner _ x r hx hr)
theorem OutL.at {w : World} {ob base : Nat} {A : Option Addr} {n c k : Nat} {sv : List SV} {rs : List (List Int)} {r : List Int} (h : OutL w ob base A n c sv rs) (hr : rs[k]? = some r) :
    ∃ (b off g d : Nat), A = some ⟨b, off, none⟩ ∧ b < w.heap.size ∧ w.cell? ⟨b, off + k, none⟩ = some (.slice (some ⟨g, 0, none⟩) r.length d) ∧ w.ownsRow base 3 1 (.slice (some ⟨g, 0, none⟩) r.length d) r.length (flat r) := by
  obtain ⟨x, hx⟩ := get_of_lt (show k < sv.length by rw [h.len]; exact (List.getElem?_eq_some_iff.1 hr).1)
  have hrd : Rd w A sv := own_rd (by rw [h.num]; exact h.own)
  obtain ⟨b, off, hA, hb, hc⟩ := hrd.getV hx
  obtain ⟨⟨g, hg⟩, hn, ho⟩ := h.inner k x r hx hr
  rw [hg, hn] at hc
  rw [hg] at ho
  exact ⟨b, off, g, x.2.2, hA, hb, hc, ho⟩
theorem infoIntS : (Try.prog.info? 26).map (fun i => (i.zero, i.size, i.bytes)) = some (some (.slice none 0 0), 1, 24) := by kernel_rfl

theorem flatMap_bd {α β : Type} {f : α → List β} {m : Nat} : ∀ {l : List α}, (∀ x ∈ l, (f x).length ≤ m) → (l.flatMap f).length ≤ l.length * m
  | [], _ => by simp
  | x :: l, h => by
    rw [List.flatMap_cons, List.length_append, List.length_cons, Nat.succ_mul]
    have h1 := h x (by simp)
    have h2 := flatMap_bd (l := l) (fun y hy => h y (by simp [hy]))
    omega
def nextO (n k : Nat) (b : List Int) (i : Int) : List (List Int) := if i ∈ b then [] else ordsF n k (b ++ [i])
theorem ordsF_bd {n : Nat} (hn : n ≤ 6) : ∀ (k : Nat) (b : List Int), (ordsF n k b).length ≤ 6 ^ k
  | 0, b => by simp [ordsF]
  | k + 1, b => by
    have h := flatMap_bd (f := nextO n k b) (m := 6 ^ k) (l := upN n) (fun x _ => by
      unfold nextO
      split
      · simp
      · exact ordsF_bd hn k _)
    rw [upN_len] at h
    have h2 := Nat.mul_le_mul_right (6 ^ k) hn
    have h3 : (ordsF n (k + 1) b).length ≤ n * 6 ^ k := h
    rw [Nat.pow_succ]
    omega
theorem pow6 {k : Nat} (hk : k ≤ 6) : 6 ^ k ≤ 46656 := Nat.pow_le_pow_right (n := 6) (by omega) hk
theorem nextO_bd {n k : Nat} (hn : n ≤ 6) (hk : k ≤ 6) (b : List Int) (i : Int) : (nextO n k b i).length ≤ 46656 := by
  unfold nextO
  split
  · simp
  · exact Nat.le_trans (ordsF_bd hn k _) (pow6 hk)
theorem partO_bd {n k m : Nat} (hn : n ≤ 6) (hk : k ≤ 6) (hm : m ≤ 6) (b : List Int) : ((upN m).flatMap (nextO n k b)).length ≤ 279936 := by
  have h := flatMap_bd (f := nextO n k b) (m := 46656) (l := upN m) (fun x _ => nextO_bd hn hk b x)
  rw [upN_len] at h
  omega

set_option maxHeartbeats 1000000 in
theorem i_copyInts (B : Option Addr) (cy n : Nat) (m : List Int) (w : World) (hn : m.length = n) (hl : n ≤ 1048576) (hB : Rd w B m) :
    Calls Try.prog 71 #[.slice B n cy] w fun e w' => ∃ A c, e = .returned (.slice A n c) ∧ w'.ownsRow w.heap.size 3 1 (.slice A n c) n (flat m) ∧ Gw w w' := by
  obtain ⟨i0, hi, hz0, hz1, hz2⟩ := info_parts infoInt
  have HB := Lib.hid hB
  have Hn := Lib.hid hn
  clear hB hn
  go_enter Try.func71, Try.ntmps71
  go_wp2_with ((at_builtin; refine wpList_catAny (α := Int) rfl (.tmp 3) (.tmp 4) 26 rfl w.heap.size 3 i0 _ 8 Try.underlying26 hi hz0 hz1 hz2 rfl (by omega) [] (some ⟨w.heap.size, 0, none⟩) 0 rfl m n Hn.out B cy rfl (HB.out.gw (by (repeat (first | with_reducible exact Gw.refl _ | with_reducible assumption | ((with_reducible refine Gw.set ?_ ?_ _); rotate_left; (focus (first | (simp; done) | (simp; omega) | omega))) | with_reducible refine Gw.alloc ?_ _ | with_reducible refine Gw.drew ?_ | with_reducible refine Gw.drewN ?_ _ | (refine Gw.trans ?_ (by with_reducible assumption)))))) (World.ownsRow_made w #[] 0 (Nat.le_refl _) (by simp [maxLen]) (by simp)) (by simp) (by omega) (by simp) ?_; intro acc' A' c' w4 hacc' hl1 hown hgg))
  go_ret
  have hl2 : acc'.length = n := by simpa using hl1
  try rw [hl2] at hown
  have he : acc' = m := by simpa using hacc'.out
  rw [he] at hown
  exact ⟨A', c', rfl, hown, hgg w (by (repeat (first | with_reducible exact Gw.refl _ | with_reducible assumption | ((with_reducible refine Gw.set ?_ ?_ _); rotate_left; (focus (first | (simp; done) | (simp; omega) | omega))) | with_reducible refine Gw.alloc ?_ _ | with_reducible refine Gw.drew ?_ | with_reducible refine Gw.drewN ?_ _ | (refine Gw.trans ?_ (by with_reducible assumption))))) (Nat.le_refl _)⟩

set_option maxHeartbeats 1000000 in
theorem s_l1Own (B : Option Addr) (cy n : Nat) (m : List Int) (w : World) (hn : m.length = n) (hl : n ≤ 1048576) (hB : Rd w B m) :
    Calls Try.prog 69 #[.slice B n cy] w fun e w' => ∃ A c, e = .returned (.slice A n c) ∧ w'.ownsRow w.heap.size 3 1 (.slice A n c) n (flat m) ∧ Gw w w' := by
  obtain ⟨i0, hi, hz0, hz1, hz2⟩ := info_parts infoInt
  have HB := Lib.hid hB
  have Hn := Lib.hid hn
  clear hB hn
  go_enter Try.func69, Try.ntmps69
  go_wp2_with ((at_builtin; refine wpList_catAny (α := Int) rfl (.tmp 3) (.tmp 4) 26 rfl w.heap.size 3 i0 _ 8 Try.underlying26 hi hz0 hz1 hz2 rfl (by omega) [] (some ⟨w.heap.size, 0, none⟩) 0 rfl m n Hn.out B cy rfl (HB.out.gw (by (repeat (first | with_reducible exact Gw.refl _ | with_reducible assumption | ((with_reducible refine Gw.set ?_ ?_ _); rotate_left; (focus (first | (simp; done) | (simp; omega) | omega))) | with_reducible refine Gw.alloc ?_ _ | with_reducible refine Gw.drew ?_ | with_reducible refine Gw.drewN ?_ _ | (refine Gw.trans ?_ (by with_reducible assumption)))))) (World.ownsRow_made w #[] 0 (Nat.le_refl _) (by simp [maxLen]) (by simp)) (by simp) (by omega) (by simp) ?_; intro acc' A' c' w4 hacc' hl1 hown hgg))
  go_ret
  have hl2 : acc'.length = n := by simpa using hl1
  try rw [hl2] at hown
  have he : acc' = m := by simpa using hacc'.out
  rw [he] at hown
  exact ⟨A', c', rfl, hown, hgg w (by (repeat (first | with_reducible exact Gw.refl _ | with_reducible assumption | ((with_reducible refine Gw.set ?_ ?_ _); rotate_left; (focus (first | (simp; done) | (simp; omega) | omega))) | with_reducible refine Gw.alloc ?_ _ | with_reducible refine Gw.drew ?_ | with_reducible refine Gw.drewN ?_ _ | (refine Gw.trans ?_ (by with_reducible assumption))))) (Nat.le_refl _)⟩

set_option maxHeartbeats 4000000 in
set_option maxRecDepth 100000 in
theorem i_ordersOf : ∀ (k n m : Nat) (b : List Int) (g c base : Nat) (w : World), b.length = m → m + k = n → n ≤ 6 → w.ownsRow base 3 1 (.slice (some ⟨g, 0, none⟩) m c) m (flat b) → base ≤ w.heap.size →
    Calls Try.prog 44 #[.int .i64 n, .slice (some ⟨g, 0, none⟩) m c] w fun e w' => ∃ A q c sv, e = .returned (.slice A q c) ∧ OutL w' w.heap.size base A q c sv (ordsF n k b) ∧ Gw w w' := by
  intro k
  induction k with
  | zero =>
    intro n m b g c base w hb hk hn hown hbase
    obtain rfl : m = n := by omega
    have Hb := Lib.hid hb
    have e1 : ((m : Int) == (m : Int)) = true := by simp
    clear hb
    go_enter Try.func44, Try.ntmps44
    go_wp2_with fail
    go_ret
    refine ⟨some ⟨w.heap.size, 0, none⟩, 1, 1, [(some ⟨g, 0, none⟩, m, c)], rfl, ⟨rfl, own_one w ((some ⟨g, 0, none⟩, m, c) : SV) (Nat.le_refl _), rfl, fun j x r hx hr => ?_⟩, (Gw.refl w).alloc _⟩
    cases j with
    | zero =>
      simp only [List.getElem?_cons_zero, Option.some.injEq, ordsF] at hx hr
      subst hx
      subst hr
      exact ⟨⟨g, rfl⟩, Hb.out.symm, by rw [Hb.out]; exact own_gw hown ((Gw.refl w).alloc _)⟩
    | succ j => simp at hx
  | succ k ih =>
    intro n m b g c base w hb hk hn hown hbase
    obtain ⟨i0, hi, hz0, hz1, hz2⟩ := info_parts infoInt
    obtain ⟨i1, hi', hy0, hy1, hy2⟩ := info_parts infoIntS
    have Hb := Lib.hid hb
    have e1 : ((m : Int) == (n : Int)) = false := by simp; omega
    have e2 : decide ((m : Int) = (n : Int)) = false := by simp; omega
    have hne : ¬((m : Int) = (n : Int)) := by omega
    have Hk := Lib.hid hk
    have hmn : m < n := by omega
    have hkn : k ≤ 6 := by omega
    have Hne := Lib.hid hne
    clear hb hk hne
    go_enter Try.func44, Try.ntmps44
    go_wp2_with fail
    go_loopw [5, 18] (fun o q wr => ∃ (i : Nat) (sv : List SV) (D : Option Addr) (d p : Nat), q = .int .i64 i ∧ i ≤ n ∧ o = .slice D p d ∧ OutL wr w.heap.size base D p d sv ((upN i).flatMap (nextO n k b)) ∧ Gw w wr) (fun _ q _ => n - (intOf q).toNat)
    case atStart => exact ⟨0, [], some ⟨w.heap.size, 0, none⟩, 0, 0, by go_num, Nat.zero_le _, rfl, ⟨rfl, World.ownsRow_made w #[] 0 (Nat.le_refl _) (by simp [maxLen]) (by simp), rfl, fun j x r hx => by simp at hx⟩, (Gw.refl w).alloc _⟩
    case round =>
      obtain ⟨wo, rfl⟩ : ∃ wo : World, wo = wr := ⟨_, rfl⟩
      obtain ⟨i, sv, D, d, p, rfl, hin, rfl, hout, hgw⟩ := hrel
      by_cases hlt : i < n
      · have hownb := own_gw hown hgw
        have hrd : Rd wo (some ⟨g, 0, none⟩) b := own_rd (by rw [Hb.out]; exact hownb)
        go_wp2_with fail
        go_loopw [7, 23] (fun u q wr => ∃ (j : Nat) (bb : Bool), q = .int .i64 j ∧ j ≤ m ∧ u = .bool bb ∧ Hid (bb = true ↔ (i : Int) ∈ b.take j) ∧ Gw wo wr) (fun _ q _ => m - (intOf q).toNat)
        case atStart => exact ⟨0, false, by go_num, Nat.zero_le _, rfl, by unfold Hid; simp, Gw.refl _⟩
        case round =>
          obtain ⟨j, bb, rfl, hj, rfl, hbb, hg2⟩ := hrel
          by_cases hjm : j < m
          · obtain ⟨x, hx⟩ := get_of_lt (l := b) (k := j) (by rw [Hb.out]; exact hjm)
            obtain ⟨b1, off1, hae, hb1, c0⟩ := (hrd.gw hg2).get1 hx
            simp only [Option.some.injEq, Addr.mk.injEq, and_true] at hae
            obtain ⟨rfl, rfl⟩ := hae
            rw [Nat.zero_add] at c0
            have htk : Hid (b.take (j + 1) = b.take j ++ [x]) := by unfold Hid; rw [List.take_add_one, hx]; rfl
            clear hx
            cases bb with
            | true =>
              go_wp2_with fail
              go_roundw
              case rel => exact ⟨j + 1, true, by go_num, by omega, rfl, by unfold Hid; rw [htk.out]; simp [hbb.out.1 rfl], hg2⟩
              case measure => simp [intOf]; omega
            | false =>
              have hnot : (i : Int) ∉ b.take j := fun h => by have := hbb.out.2 h; cases this
              have Hnot := Lib.hid hnot
              clear hnot
              obtain ⟨t, ht⟩ : ∃ t : Bool, Hid ((x == (i : Int)) = t) := ⟨_, rfl⟩
              have et := ht.out
              have hrel2 : Hid (t = true ↔ (i : Int) ∈ b.take (j + 1)) := by
                unfold Hid
                rw [htk.out, ← ht.out]
                simp only [List.mem_append, List.mem_singleton, beq_iff_eq]
                exact ⟨fun h => .inr h.symm, fun h => h.elim (fun h => absurd h Hnot.out) (fun h => h.symm)⟩
              go_wp2_with fail
              go_roundw
              case rel => exact ⟨j + 1, t, by go_num, by omega, rfl, hrel2, hg2⟩
              case measure => simp [intOf]; omega
          · have hall : Hid (bb = true ↔ (i : Int) ∈ b) := by
              have := hbb.out
              rw [List.take_of_length_le (by rw [Hb.out]; omega)] at this
              exact this
            have hgr := Gw.trans hgw hg2
            have hout2 := hout.gw hg2
            have hpl : p ≤ 279936 := by
              have := partO_bd (n := n) (k := k) (m := i) hn hkn (by omega) b
              rw [← hout.len, hout.num] at this
              exact this
            cases bb with
            | true =>
              have hfm : Hid ((upN (i + 1)).flatMap (nextO n k b) = (upN i).flatMap (nextO n k b)) := by
                unfold Hid
                rw [upN_succ, List.flatMap_append]
                simp [nextO, hall.out.1 rfl]
              go_wp2_with fail
              go_roundw
              case rel => exact ⟨i + 1, sv, D, d, p, by go_num, by omega, rfl, by rw [hfm.out]; exact hout2, hgr⟩
              case measure => simp [intOf]; omega
            | false =>
              have hno : (i : Int) ∉ b := fun h => by have := hall.out.2 h; cases this
              have hfm : Hid ((upN (i + 1)).flatMap (nextO n k b) = (upN i).flatMap (nextO n k b) ++ ordsF n k (b ++ [(i : Int)])) := by
                unfold Hid
                rw [upN_succ, List.flatMap_append]
                simp [nextO, hno]
              clear hno
              have hgz := hgr.size
              go_wp2_with fail
              refine (i_copyInts _ _ _ b _ Hb.out (by omega) (hrd.gw hg2)).mono ?_
              rintro _ w4 ⟨C, cc, rfl, hownc, hb4⟩
              have hg4 := Gw.trans hgr hb4
              have hgz4 := hg4.size
              have hownc' : w4.ownsRow wr.heap.size 3 1 (.slice C b.length cc) b.length (flat b) := by rw [Hb.out]; exact hownc
              go_wp2_with (at_builtin; go_loud (refine wpList_push (α := Int) rfl (.tmp 39) (.tmp 41) 26 rfl wr.heap.size 3 i0 _ 8 Try.underlying26 hi hz0 hz1 hz2 rfl (by omega) b C cc (by rw [Hb.out]; rfl) w4 (i : Int) rfl _ rfl rfl hownc' (by rw [Hb.out]; omega) hb4.size ?_); intro acc' A' c'' w9 hacc' hl1 hl2 hown' _ hgg)
              have hacl : acc'.length = m + 1 := by rw [hacc'.out, List.length_append, Hb.out]; rfl
              rw [hacl] at hown' ⊢
              have hg9 := hgg w hg4 hgz
              have hg9o := hgg wr hb4 (Nat.le_refl _)
              obtain ⟨g9, rfl, hg91, hg92⟩ := own_addr hown' (by omega)
              have hgz9 := hg9.size
              have hacd : Hid (acc' = b ++ [(i : Int)]) := hacc'
              have hal : Hid (acc'.length = m + 1) := hacl
              have hout9 := hout2.gw hg9o
              clear hacc' hacl hgg
              refine (ih n (m + 1) acc' g9 c'' base w9 hal.out (by have := Hk.out; omega) hn (own_lower hown' (by omega)) (by omega)).mono ?_
              rintro _ w10 ⟨A2, q2, c2, sv2, rfl, hout10, hb10⟩
              rw [hacd.out] at hout10
              have hout9 := hout9.gw hb10
              have hg10 := Gw.trans hg9 hb10
              have hgz10 := hg10.size
              have hq2 : q2 ≤ 46656 := by
                have := Nat.le_trans (ordsF_bd hn k (b ++ [(i : Int)])) (pow6 hkn)
                rw [← hout10.len, hout10.num] at this
                exact this
              go_wp2_with (at_builtin; go_loud (refine wpList_cat2 (α := SV) rfl (.tmp 36) (.tmp 43) 76 rfl w.heap.size 26 i1 _ 24 Try.underlying76 hi' hy0 hy1 hy2 rfl (by omega) sv p hout9.num D d rfl sv2 q2 hout10.num A2 c2 rfl (own_rd (by rw [hout10.num]; exact hout10.own)) hout9.own (by omega) (by omega) (by omega) ?_); intro A3 c3 w11 hown11 hgg11 hgr11)
              go_roundw
              case rel => exact ⟨i + 1, sv ++ sv2, A3, c3, p + q2, by go_num, by omega, rfl, by rw [hfm.out]; exact hout9.cat hout10 hgr11 hown11, hgg11 w hg10 (Nat.le_refl _)⟩
              case measure => simp [intOf]; omega
      · obtain rfl : i = n := by omega
        go_wp2_with fail
        go_ret
        exact ⟨D, p, d, sv, rfl, hout, hgw⟩
end Go.Proofs.Ytipndibiioajmaa
