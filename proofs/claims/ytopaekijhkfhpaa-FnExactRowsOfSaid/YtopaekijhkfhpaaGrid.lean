/-
  Lists of lists of integers in memory: read, compared, marked.
-/
import Derived.Test.YtopaekijhkfhpaaSecB
import Derived.Test.YtopaekijhkfhpaaTyInt
namespace Go.Proofs.Ytopaekijhkfhpaa
open Go.RowKit

abbrev SV := Option Addr × Nat × Nat
abbrev SV.val (x : SV) : Value := .slice x.1 x.2.1 x.2.2
instance : Flat SV where
  sz := 1
  cells := fun x => [x.val]
  len := fun _ => rfl
  one := fun x u hu => by simp at hu; subst hu <;> rfl
  pos := by omega
theorem Rd.getV {w : World} {A : Option Addr} {l : List SV} {k : Nat} {x : SV} (h : Rd w A l) (hi : l[k]? = some x) : ∃ b off, A = some ⟨b, off, none⟩ ∧ b < w.heap.size ∧ w.cell? ⟨b, off + k, none⟩ = some (.slice x.1 x.2.1 x.2.2) := by
  obtain ⟨b, off, hA, hb, hc⟩ := h.get hi
  have h0 := hc 0 _ rfl
  simp only [show Flat.sz SV = 1 from rfl, Nat.mul_one, Nat.add_zero] at h0
  exact ⟨b, off, hA, hb, h0⟩

structure RdSS (w : World) (A : Option Addr) (sv : List SV) (rs : List (List Int)) : Prop where
  outer : Rd w A sv
  len : sv.length = rs.length
  inner : ∀ (k : Nat) (x : SV) r, sv[k]? = some x → rs[k]? = some r → x.2.1 = r.length ∧ Rd w x.1 r
theorem RdSS.gw {w w' : World} {A : Option Addr} {sv : List SV} {rs : List (List Int)} (h : RdSS w A sv rs) (hg : Gw w w') : RdSS w' A sv rs :=
  ⟨h.outer.gw hg, h.len, fun k x r hx hr => ⟨(h.inner k x r hx hr).1, (h.inner k x r hx hr).2.gw hg⟩⟩
theorem RdSS.get {w : World} {A : Option Addr} {sv : List SV} {rs : List (List Int)} {k : Nat} {r : List Int} (h : RdSS w A sv rs) (hr : rs[k]? = some r) :
    ∃ (b off : Nat) (D : Option Addr) (d : Nat), A = some ⟨b, off, none⟩ ∧ b < w.heap.size ∧ w.cell? ⟨b, off + k, none⟩ = some (.slice D r.length d) ∧ Rd w D r := by
  obtain ⟨x, hx⟩ := get_of_lt (show k < sv.length by rw [h.len]; exact (List.getElem?_eq_some_iff.1 hr).1)
  obtain ⟨b, off, hA, hb, hc⟩ := h.outer.getV hx
  obtain ⟨h1, h2⟩ := h.inner k x r hx hr
  exact ⟨b, off, x.1, x.2.2, hA, hb, by rw [hc, h1], h2⟩

set_option maxHeartbeats 400000 in
theorem l_eqIntSS (A B : Option Addr) (c d : Nat) (sv tv : List SV) (rs : List (List Int)) (w : World) (hl : rs.length ≤ 1048576) (hr : ∀ r ∈ rs, r.length ≤ 1048576) (hA : RdSS w A sv rs) (hB : RdSS w B tv rs) :
    Calls Try.prog 10 #[.slice A rs.length c, .slice B rs.length d] w fun e w' => e = .returned (.bool true) ∧ Gw w w' := by
  have Hr := Lib.hid hr
  clear hr
  go_enter Try.func10, Try.ntmps10
  go_wp2
  go_loopw [5] (fun i wr => ∃ k : Nat, i = .int .i64 k ∧ k ≤ rs.length ∧ Gw w wr) (fun i _ => rs.length - (intOf i).toNat)
  case atStart => exact ⟨0, by go_num, Nat.zero_le _, by (repeat (first | with_reducible exact Gw.refl _ | with_reducible assumption | ((with_reducible refine Gw.set ?_ ?_ _); rotate_left; (focus (first | (simp; done) | (simp; omega) | omega))) | with_reducible refine Gw.alloc ?_ _ | with_reducible refine Gw.drew ?_ | with_reducible refine Gw.drewN ?_ _ | (refine Gw.trans ?_ (by with_reducible assumption))))⟩
  case round =>
    obtain ⟨k, rfl, hk, hgw⟩ := hrel
    by_cases hlt : k < rs.length
    · obtain ⟨r, hx⟩ := get_of_lt hlt
      obtain ⟨b, off, D, d1, rfl, hb, c0, r0⟩ := (hA.gw hgw).get hx
      obtain ⟨b', off', D', d1', rfl, hb', c1, r1⟩ := (hB.gw hgw).get hx
      have hrl := Hr.out r (mem_of_get hx)
      have Hx : Hid (rs[k]? = some r) := hx; clear hx
      go_wp2_with ((with_reducible refine wp_region_gw (by kernel_rfl) (by kernel_rfl) ?_); have hcq := @GwOf.cell; (repeat (go_big_quiet_step ((go_at_call 42; exact GwOf.call (l_eqIntS _ _ _ _ _ _ hrl (r0.gw (GwOf.gw _)) (r1.gw (GwOf.gw _))))))); refine wpQuiet_nil ?_; clear hcq; rintro w' ⟨⟨w', hb⟩, rfl⟩; (try dsimp only); have hc := hb.cells; have hf := hb.frozens; have hz := hb.size; (try simp at hz); (try have hz0 : w.heap.size < w'.heap.size := (by omega)); (try have hz1 : w.heap.size + 1 < w'.heap.size := (by omega)); (try have hz2 : w.heap.size + 2 < w'.heap.size := (by omega)); (try have hz3 : w.heap.size + 3 < w'.heap.size := (by omega)); (try have hz4 : w.heap.size + 4 < w'.heap.size := (by omega)); (try have hz5 : w.heap.size + 5 < w'.heap.size := (by omega)))
      go_roundw
      case rel => exact ⟨k + 1, by go_num, by omega, by (repeat (first | with_reducible exact Gw.refl _ | with_reducible assumption | ((with_reducible refine Gw.set ?_ ?_ _); rotate_left; (focus (first | (simp; done) | (simp; omega) | omega))) | with_reducible refine Gw.alloc ?_ _ | with_reducible refine Gw.drew ?_ | with_reducible refine Gw.drewN ?_ _ | (refine Gw.trans ?_ (by with_reducible assumption))))⟩
      case measure => simp [intOf]; omega
    · go_wp2
      go_ret
      exact ⟨rfl, by (repeat (first | with_reducible exact Gw.refl _ | with_reducible assumption | ((with_reducible refine Gw.set ?_ ?_ _); rotate_left; (focus (first | (simp; done) | (simp; omega) | omega))) | with_reducible refine Gw.alloc ?_ _ | with_reducible refine Gw.drew ?_ | with_reducible refine Gw.drewN ?_ _ | (refine Gw.trans ?_ (by with_reducible assumption))))⟩

/-- The rows of a list of lists that is one's own: outer block and inner blocks lie apart. -/
theorem types_apart {w : World} {base base' : Nat} {e e' : TypeId} {n n' : Nat} {v v' : Value} {xs xs' : List Value} (he : e ≠ e') (h : w.ownsRow base e 1 v n xs) (h' : w.ownsRow base' e' 1 v' n' xs') {g : Nat} (hg : v.ownBlock = some g) : v'.ownBlock ≠ some g := by
  intro hg'
  rcases h.2 with ⟨rfl, _⟩ | ⟨g1, cap, cur, rfl, hb, hc, hc1, hm, hh⟩
  · simp [Value.ownBlock] at hg
  · rcases h'.2 with ⟨rfl, _⟩ | ⟨g2, cap', cur', rfl, hb', hc', hc1', hm', hh'⟩
    · simp [Value.ownBlock] at hg'
    · simp [Value.ownBlock] at hg hg'
      subst hg
      subst hg'
      simp_all
structure OwnSS (w : World) (base : Nat) (A : Option Addr) (c : Nat) (sv : List SV) (rs : List (List Value)) : Prop where
  outer : w.ownsRow base 57 1 (.slice A sv.length c) sv.length (flat sv)
  len : sv.length = rs.length
  inner : ∀ (k : Nat) (x : SV) r, sv[k]? = some x → rs[k]? = some r → x.2.1 = r.length ∧ w.ownsRow base 3 1 x.val r.length r
  apart : ∀ (j k : Nat) (x y : SV), j ≠ k → sv[j]? = some x → sv[k]? = some y → ∀ g, x.val.ownBlock = some g → y.val.ownBlock ≠ some g
theorem OwnSS.apartO {w : World} {base : Nat} {A : Option Addr} {c : Nat} {sv : List SV} {rs : List (List Value)} (h : OwnSS w base A c sv rs) {k : Nat} {x : SV} (hx : sv[k]? = some x) {g : Nat} (hg : x.val.ownBlock = some g) : (Value.slice A sv.length c).ownBlock ≠ some g := by
  obtain ⟨r, hr⟩ := get_of_lt (show k < rs.length by rw [← h.len]; exact (List.getElem?_eq_some_iff.1 hx).1)
  exact types_apart (by decide) (h.inner k x r hx hr).2 h.outer hg
theorem OwnSS.kept {w w' : World} {base : Nat} {A : Option Addr} {c : Nat} {sv : List SV} {rs : List (List Value)} {row : Option Nat} (h : OwnSS w base A c sv rs) (hg : w.grownBy w' row) (hr : ∀ g, row = some g → g < base ∨ w.heap.size ≤ g) : OwnSS w' base A c sv rs := by
  have key : ∀ {v : Value} {n : Nat} {e : TypeId} {xs : List Value}, w.ownsRow base e 1 v n xs → w'.ownsRow base e 1 v n xs := by
    intro v n e xs ho
    refine ho.kept hg ?_
    cases hv : v.ownBlock with
    | none => exact .inl rfl
    | some g =>
      refine .inr fun he => ?_
      have h1 := ho.lt g hv
      have h2 := hr g he.symm
      omega
  exact ⟨key h.outer, h.len, fun k x r hx hy => ⟨(h.inner k x r hx hy).1, key (h.inner k x r hx hy).2⟩, h.apart⟩
theorem OwnSS.gw {w w' : World} {base : Nat} {A : Option Addr} {c : Nat} {sv : List SV} {rs : List (List Value)} (h : OwnSS w base A c sv rs) (hg : Gw w w') : OwnSS w' base A c sv rs :=
  h.kept (hg.by_ none) (fun g hg => by simp at hg)
theorem OwnSS.lower {w : World} {base base' : Nat} {A : Option Addr} {c : Nat} {sv : List SV} {rs : List (List Value)} (h : OwnSS w base A c sv rs) (hb : base' ≤ base) : OwnSS w base' A c sv rs :=
  ⟨own_lower h.outer hb, h.len, fun k x r hx hy => ⟨(h.inner k x r hx hy).1, own_lower (h.inner k x r hx hy).2 hb⟩, h.apart⟩
theorem OwnSS.rd {w : World} {base : Nat} {A : Option Addr} {c : Nat} {sv : List SV} {rs : List (List Int)} (h : OwnSS w base A c sv (rs.map flat)) : RdSS w A sv rs := by
  refine ⟨own_rd h.outer, by simpa using h.len, fun k x r hx hy => ?_⟩
  obtain ⟨h1, h2⟩ := h.inner k x (flat r) hx (by simp [hy])
  have hf : (flat r).length = r.length := by simp [flat_len, show Flat.sz Int = 1 from rfl]
  rw [hf] at h1 h2
  refine ⟨h1, ?_⟩
  unfold SV.val at h2
  rw [h1] at h2
  exact own_rd h2
/-- One inner row changed. -/
theorem OwnSS.mark {w w' : World} {base : Nat} {A : Option Addr} {c k : Nat} {sv : List SV} {rs : List (List Value)} {x : SV} {r' : List Value} (h : OwnSS w base A c sv rs) (hx : sv[k]? = some x) (hg : w.grownBy w' x.val.ownBlock)
    (hl : x.2.1 = r'.length) (ho : w'.ownsRow base 3 1 x.val r'.length r') : OwnSS w' base A c sv (rs.set k r') := by
  refine ⟨h.outer.kept hg ?_, by simpa using h.len, fun j y r hy hr => ?_, h.apart⟩
  · cases hv : (Value.slice A sv.length c).ownBlock with
    | none => exact .inl rfl
    | some g => exact .inr fun he => h.apartO hx he.symm hv
  · by_cases hjk : j = k
    · subst hjk
      rw [hx] at hy
      obtain rfl := Option.some.inj hy
      have hlt : j < rs.length := by rw [← h.len]; exact (List.getElem?_eq_some_iff.1 hx).1
      rw [List.getElem?_set_self hlt] at hr
      obtain rfl := Option.some.inj hr
      exact ⟨hl, ho⟩
    · rw [List.getElem?_set_ne (fun h => hjk h.symm)] at hr
      obtain ⟨h1, h2⟩ := h.inner j y r hy hr
      refine ⟨h1, h2.kept hg ?_⟩
      cases hv : y.val.ownBlock with
      | none => exact .inl rfl
      | some g => exact .inr fun he => h.apart j k y x hjk hy hx g hv he.symm

theorem set_same {α : Type} {l : List α} {k : Nat} {x : α} (h : l[k]? = some x) : l.set k x = l := by
  apply List.ext_getElem?
  intro j
  by_cases hj : j = k
  · subst hj
    rw [List.getElem?_set_self (List.getElem?_eq_some_iff.1 h).1, h]
  · rw [List.getElem?_set_ne (fun e => hj e.symm)]
def marksSS : Int → List Nat → List (List Value)
  | _, [] => []
  | k, n :: ns => marks k n :: marksSS (k + n) ns
theorem marksSS_len (k : Int) (ns : List Nat) : (marksSS k ns).length = ns.length := by
  induction ns generalizing k with
  | nil => rfl
  | cons n ns ih => simp [marksSS, ih]
theorem marksSS_get {k : Int} {ns : List Nat} {j n : Nat} (h : ns[j]? = some n) : (marksSS k ns)[j]? = some (marks (k + ((ns.take j).sum : Nat)) n) := by
  induction ns generalizing k j with
  | nil => simp at h
  | cons m ns ih =>
    cases j with
    | zero => simp at h; subst h; simp [marksSS]
    | succ j =>
      simp at h
      simp only [marksSS, List.getElem?_cons_succ, ih h, List.take_succ_cons, List.sum_cons]
      congr 2
      omega
theorem marksSS_map (k : Int) (ns : List Nat) : (marksSS k ns).map List.length = ns := by
  induction ns generalizing k with
  | nil => rfl
  | cons n ns ih => simp [marksSS, ih, marks_len]
theorem sum_take_le (ns : List Nat) (j : Nat) : (ns.take j).sum ≤ ns.sum := by
  induction ns generalizing j with
  | nil => simp
  | cons n ns ih =>
    cases j with
    | zero => simp
    | succ j => simp only [List.take_succ_cons, List.sum_cons]; have := ih j; omega
theorem sum_take_succ {ns : List Nat} {j n : Nat} (h : ns[j]? = some n) : (ns.take (j + 1)).sum = (ns.take j).sum + n := by
  rw [List.take_add_one, h]
  simp
theorem elem_le_sum {ns : List Nat} {j n : Nat} (h : ns[j]? = some n) : n ≤ ns.sum := by
  have h1 := sum_take_succ h
  have h2 := sum_take_le ns (j + 1)
  omega

set_option maxHeartbeats 1000000 in
theorem l_markIntSS (A : Option Addr) (c base : Nat) (sv : List SV) (rs : List (List Value)) (ns : List Nat) (k0 : Int) (w : World) (hl : sv.length ≤ 1048576) (hns : rs.map List.length = ns) (hsum : ns.sum ≤ 1048576) (hk0 : 0 ≤ k0 ∧ k0 ≤ 10000000) (ho : OwnSS w base A c sv rs) (hbw : base ≤ w.heap.size) :
    Calls Try.prog 13 #[.slice A sv.length c, .int .i64 k0] w fun e w' => e = .returned (.int .i64 (k0 + (ns.sum : Int))) ∧ OwnSS w' base A c sv (marksSS k0 ns) ∧ Below base w w' := by
  have Hns := Lib.hid hns
  clear hns
  have hlen : Hid (sv.length = ns.length) := by unfold Hid; rw [ho.len, ← Hns.out, List.length_map]
  go_enter Try.func13, Try.ntmps13
  go_wp2
  go_loopw [1, 5] (fun q i wr => ∃ (k : Nat) (rs' : List (List Value)), i = .int .i64 k ∧ k ≤ sv.length ∧ q = .int .i64 (k0 + ((ns.take k).sum : Nat)) ∧ OwnSS wr base A c sv rs' ∧ Hid (∀ j, j < k → rs'[j]? = (marksSS k0 ns)[j]?) ∧ Hid (rs'.map List.length = ns) ∧ Below base w wr ∧ base ≤ wr.heap.size) (fun _ i _ => sv.length - (intOf i).toNat)
  case atStart => exact ⟨0, rs, by go_num, Nat.zero_le _, by simp, ho, fun j hj => absurd hj (by omega), Hns, Below.refl _ _, hbw⟩
  case round =>
    obtain ⟨k, rs', rfl, hk, rfl, hown, hmk, hlens, hbl, hbs⟩ := hrel
    clear ho
    have hs1 := sum_take_le ns k
    by_cases hlt : k < sv.length
    · obtain ⟨⟨D, n, d⟩, hx⟩ := get_of_lt hlt
      obtain ⟨r, hr⟩ := get_of_lt (show k < rs'.length by rw [← hown.len]; exact hlt)
      obtain ⟨h1, hin⟩ := hown.inner k _ r hx hr
      dsimp only at h1
      subst h1
      have hn : Hid (ns[k]? = some r.length) := by unfold Hid; rw [← hlens.out]; simp [hr]
      have hnle := elem_le_sum hn.out
      obtain ⟨b, off, hA, hb, c0⟩ := (own_rd hown.outer).getV hx
      dsimp only at c0
      obtain ⟨g, rfl, hg1, hg2⟩ := own_addr hown.outer (by omega)
      obtain ⟨rfl, rfl⟩ : g = b ∧ 0 = off := by simpa using hA
      have hxs := sum_take_succ hn.out
      have Hx := Lib.hid hx
      have Hr := Lib.hid hr
      have Hxs := Lib.hid hxs
      clear hx hr hA hxs
      rw [Nat.zero_add] at c0
      go_wp2_with (go_at_call 45; go_loud (refine (l_markIntS D r.length d base r _ wr (by omega) (by omega) hin).mono ?_); rintro e w' ⟨rfl, hin', hgr⟩)
      have hz := hgr.size
      have hm : OwnSS w' base (some ⟨g, 0, none⟩) c sv (rs'.set k (marks (k0 + ((ns.take k).sum : Nat)) (r.length * 1))) := hown.mark Hx.out hgr (by simp [marks_len]) (by simpa [marks_len] using hin')
      rw [Nat.mul_one] at hm
      go_roundw
      case rel =>
        refine ⟨k + 1, _, by go_num, by omega, ?_, hm, ?_, ?_, hbl.grown hgr hbs (fun g hg => (hin.lt g hg).1), by omega⟩
        · rw [Hxs.out]
          congr 1
          omega
        · intro j hj
          by_cases hjk : j = k
          · subst hjk
            rw [marksSS_get hn.out, List.getElem?_set_self (List.getElem?_eq_some_iff.1 Hr.out).1]
          · rw [List.getElem?_set_ne (fun h => hjk h.symm)]
            exact hmk.out j (by omega)
        · unfold Hid
          rw [List.map_set, hlens.out, marks_len]
          exact set_same hn.out
      case measure => simp [intOf]; omega
    · obtain rfl : k = sv.length := by omega
      have hfin : Hid (rs' = marksSS k0 ns) := by
        unfold Hid
        apply List.ext_getElem?
        intro j
        by_cases hj : j < sv.length
        · exact hmk.out j hj
        · rw [List.getElem?_eq_none (by rw [← hown.len]; omega), List.getElem?_eq_none (by rw [marksSS_len, ← hlen.out]; omega)]
      have hall : Hid ((ns.take sv.length).sum = ns.sum) := by unfold Hid; rw [List.take_of_length_le (by rw [hlen.out]; omega)]
      go_wp2
      go_ret
      exact ⟨by rw [hall.out]; rfl, hfin.out ▸ hown, hbl⟩
set_option maxHeartbeats 1000000 in
theorem l_heldIntSS (A : Option Addr) (c base : Nat) (sv : List SV) (ns : List Nat) (k0 : Int) (w : World) (hl : sv.length ≤ 1048576) (hsum : ns.sum ≤ 1048576) (hk0 : 0 ≤ k0 ∧ k0 ≤ 10000000) (ho : OwnSS w base A c sv (marksSS k0 ns)) :
    Calls Try.prog 14 #[.slice A sv.length c, .int .i64 k0] w fun e w' => e = .returned (.int .i64 (k0 + (ns.sum : Int))) ∧ w = w' := by
  have hlen : Hid (sv.length = ns.length) := by unfold Hid; rw [ho.len, marksSS_len]
  go_enter Try.func14, Try.ntmps14
  go_wp2
  go_loop [1, 5] (fun q i => ∃ (k : Nat), i = .int .i64 k ∧ k ≤ sv.length ∧ q = .int .i64 (k0 + ((ns.take k).sum : Nat))) (fun _ i => sv.length - (intOf i).toNat)
  case atStart => exact ⟨0, by go_num, Nat.zero_le _, by simp⟩
  case round =>
    obtain ⟨k, rfl, hk, rfl⟩ := hrel
    have hs1 := sum_take_le ns k
    by_cases hlt : k < sv.length
    · obtain ⟨⟨D, n, d⟩, hx⟩ := get_of_lt hlt
      obtain ⟨m, hn⟩ := get_of_lt (show k < ns.length by rw [← hlen.out]; exact hlt)
      have hr := marksSS_get (k := k0) hn
      obtain ⟨h1, hin⟩ := ho.inner k _ _ hx hr
      rw [marks_len] at h1 hin
      dsimp only at h1
      subst h1
      have hnle := elem_le_sum hn
      obtain ⟨b, off, hA, hb, c0⟩ := (own_rd ho.outer).getV hx
      dsimp only at c0
      obtain ⟨g, rfl, hg1, hg2⟩ := own_addr ho.outer (by omega)
      obtain ⟨rfl, rfl⟩ : g = b ∧ 0 = off := by simpa using hA
      have hxs := sum_take_succ hn
      have Hxs := Lib.hid hxs
      clear hx hr hA hxs hn
      rw [Nat.zero_add] at c0
      go_wp2_with (go_at_call 46; refine (l_heldIntS _ _ _ _ _ _ (by omega) (by omega) (by rw [Nat.mul_one]; exact hin)).mono ?_; rintro e w' ⟨rfl, rfl⟩)
      go_round
      case rel => exact ⟨k + 1, by go_num, by omega, by rw [Hxs.out]; congr 1; omega⟩
      case measure => simp [intOf]; omega
    · obtain rfl : k = sv.length := by omega
      have hall : Hid ((ns.take sv.length).sum = ns.sum) := by unfold Hid; rw [List.take_of_length_le (by rw [hlen.out]; omega)]
      go_wp2
      go_ret
      exact ⟨by rw [hall.out]; rfl, rfl⟩
end Go.Proofs.Ytopaekijhkfhpaa
