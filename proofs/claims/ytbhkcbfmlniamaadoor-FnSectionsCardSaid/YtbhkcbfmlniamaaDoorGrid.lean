/-
  Lists of lists of integers in memory: read, compared, marked.
-/
import Derived.Test.YtbhkcbfmlniamaaDoorSecB
import Derived.Test.YtbhkcbfmlniamaaDoorTyInt
namespace Go.Proofs.YtbhkcbfmlniamaaDoor
open Go.RowKit

abbrev SV := Option Addr × Nat × Nat
abbrev SV.val (x : SV) : Value := .slice x.1 x.2.1 x.2.2
instance : Flat SV where
  sz := 1
  cells := fun x => [x.val]
  len := fun _ => rfl
  one := fun x u hu => by simp at hu; subst hu <;> rfl
  pos := by omega
theorem Rd.getV {w : World} {A : Option Addr} {l : List SV} {k : Nat} {x : SV} (h : Rd w A l) (hi : l[k]? = some x) : ∃ b off, A = some ⟨b, off, none⟩ ∧ b < w.heap.size ∧ w.cell? ⟨b, off + k, none⟩ = some (.slice x.1 x.2.1 x.2.2) := by
  obtain ⟨b, off, hA, hb, hc⟩ := h.get hi
  have h0 := hc 0 _ rfl
  simp only [show Flat.sz SV = 1 from rfl, Nat.mul_one, Nat.add_zero] at h0
  exact ⟨b, off, hA, hb, h0⟩

structure RdSS (w : World) (A : Option Addr) (sv : List SV) (rs : List (List Int)) : Prop where
  outer : Rd w A sv
  len : sv.length = rs.length
  inner : ∀ (k : Nat) (x : SV) r, sv[k]? = some x → rs[k]? = some r → x.2.1 = r.length ∧ Rd w x.1 r
theorem RdSS.gw {w w' : World} {A : Option Addr} {sv : List SV} {rs : List (List Int)} (h : RdSS w A sv rs) (hg : Gw w w') : RdSS w' A sv rs :=
  ⟨h.outer.gw hg, h.len, fun k x r hx hr => ⟨(h.inner k x r hx hr).1, (h.inner k x r hx hr).2.gw hg⟩⟩
theorem RdSS.get {w : World} {A : Option Addr} {sv : List SV} {rs : List (List Int)} {k : Nat} {r : List Int} (h : RdSS w A sv rs) (hr : rs[k]? = some r) :
    ∃ (b off : Nat) (D : Option Addr) (d : Nat), A = some ⟨b, off, none⟩ ∧ b < w.heap.size ∧ w.cell? ⟨b, off + k, none⟩ = some (.slice D r.length d) ∧ Rd w D r := by
  obtain ⟨x, hx⟩ := get_of_lt (show k < sv.length by rw [h.len]; exact (List.getElem?_eq_some_iff.1 hr).1)
  obtain ⟨b, off, hA, hb, hc⟩ := h.outer.getV hx
  obtain ⟨h1, h2⟩ := h.inner k x r hx hr
  exact ⟨b, off, x.1, x.2.2, hA, hb, by rw [hc, h1], h2⟩

/-- The rows of a list of lists that is one's own: outer block and inner blocks lie apart. -/
theorem types_apart {w : World} {base base' : Nat} {e e' : TypeId} {n n' : Nat} {v v' : Value} {xs xs' : List Value} (he : e ≠ e') (h : w.ownsRow base e 1 v n xs) (h' : w.ownsRow base' e' 1 v' n' xs') {g : Nat} (hg : v.ownBlock = some g) : v'.ownBlock ≠ some g := by
  intro hg'
  rcases h.2 with ⟨rfl, _⟩ | ⟨g1, cap, cur, rfl, hb, hc, hc1, hm, hh⟩
  · simp [Value.ownBlock] at hg
  · rcases h'.2 with ⟨rfl, _⟩ | ⟨g2, cap', cur', rfl, hb', hc', hc1', hm', hh'⟩
    · simp [Value.ownBlock] at hg'
    · simp [Value.ownBlock] at hg hg'
      subst hg
      subst hg'
      simp_all
structure OwnSS (w : World) (base : Nat) (A : Option Addr) (c : Nat) (sv : List SV) (rs : List (List Value)) : Prop where
  outer : w.ownsRow base 27 1 (.slice A sv.length c) sv.length (flat sv)
  len : sv.length = rs.length
  inner : ∀ (k : Nat) (x : SV) r, sv[k]? = some x → rs[k]? = some r → x.2.1 = r.length ∧ w.ownsRow base 3 1 x.val r.length r
  apart : ∀ (j k : Nat) (x y : SV), j ≠ k → sv[j]? = some x → sv[k]? = some y → ∀ g, x.val.ownBlock = some g → y.val.ownBlock ≠ some g
theorem OwnSS.apartO {w : World} {base : Nat} {A : Option Addr} {c : Nat} {sv : List SV} {rs : List (List Value)} (h : OwnSS w base A c sv rs) {k : Nat} {x : SV} (hx : sv[k]? = some x) {g : Nat} (hg : x.val.ownBlock = some g) : (Value.slice A sv.length c).ownBlock ≠ some g := by
  obtain ⟨r, hr⟩ := get_of_lt (show k < rs.length by rw [← h.len]; exact (List.getElem?_eq_some_iff.1 hx).1)
  exact types_apart (by decide) (h.inner k x r hx hr).2 h.outer hg
theorem OwnSS.kept {w w' : World} {base : Nat} {A : Option Addr} {c : Nat} {sv : List SV} {rs : List (List Value)} {row : Option Nat} (h : OwnSS w base A c sv rs) (hg : w.grownBy w' row) (hr : ∀ g, row = some g → g < base ∨ w.heap.size ≤ g) : OwnSS w' base A c sv rs := by
  have key : ∀ {v : Value} {n : Nat} {e : TypeId} {xs : List Value}, w.ownsRow base e 1 v n xs → w'.ownsRow base e 1 v n xs := by
    intro v n e xs ho
    refine ho.kept hg ?_
    cases hv : v.ownBlock with
    | none => exact .inl rfl
    | some g =>
      refine .inr fun he => ?_
      have h1 := ho.lt g hv
      have h2 := hr g he.symm
      omega
  exact ⟨key h.outer, h.len, fun k x r hx hy => ⟨(h.inner k x r hx hy).1, key (h.inner k x r hx hy).2⟩, h.apart⟩
theorem OwnSS.gw {w w' : World} {base : Nat} {A : Option Addr} {c : Nat} {sv : List SV} {rs : List (List Value)} (h : OwnSS w base A c sv rs) (hg : Gw w w') : OwnSS w' base A c sv rs :=
  h.kept (hg.by_ none) (fun g hg => by simp at hg)
theorem OwnSS.lower {w : World} {base base' : Nat} {A : Option Addr} {c : Nat} {sv : List SV} {rs : List (List Value)} (h : OwnSS w base A c sv rs) (hb : base' ≤ base) : OwnSS w base' A c sv rs :=
  ⟨own_lower h.outer hb, h.len, fun k x r hx hy => ⟨(h.inner k x r hx hy).1, own_lower (h.inner k x r hx hy).2 hb⟩, h.apart⟩
theorem OwnSS.rd {w : World} {base : Nat} {A : Option Addr} {c : Nat} {sv : List SV} {rs : List (List Int)} (h : OwnSS w base A c sv (rs.map flat)) : RdSS w A sv rs := by
  refine ⟨own_rd h.outer, by simpa using h.len, fun k x r hx hy => ?_⟩
  obtain ⟨h1, h2⟩ := h.inner k x (flat r) hx (by simp [hy])
  have hf : (flat r).length = r.length := by simp [flat_len, show Flat.sz Int = 1 from rfl]
  rw [hf] at h1 h2
  refine ⟨h1, ?_⟩
  unfold SV.val at h2
  rw [h1] at h2
  exact own_rd h2
/-- One inner row changed. -/
theorem OwnSS.mark {w w' : World} {base : Nat} {A : Option Addr} {c k : Nat} {sv : List SV} {rs : List (List Value)} {x : SV} {r' : List Value} (h : OwnSS w base A c sv rs) (hx : sv[k]? = some x) (hg : w.grownBy w' x.val.ownBlock)
    (hl : x.2.1 = r'.length) (ho : w'.ownsRow base 3 1 x.val r'.length r') : OwnSS w' base A c sv (rs.set k r') := by
  refine ⟨h.outer.kept hg ?_, by simpa using h.len, fun j y r hy hr => ?_, h.apart⟩
  · cases hv : (Value.slice A sv.length c).ownBlock with
    | none => exact .inl rfl
    | some g => exact .inr fun he => h.apartO hx he.symm hv
  · by_cases hjk : j = k
    · subst hjk
      rw [hx] at hy
      obtain rfl := Option.some.inj hy
      have hlt : j < rs.length := by rw [← h.len]; exact (List.getElem?_eq_some_iff.1 hx).1
      rw [List.getElem?_set_self hlt] at hr
      obtain rfl := Option.some.inj hr
      exact ⟨hl, ho⟩
    · rw [List.getElem?_set_ne (fun h => hjk h.symm)] at hr
      obtain ⟨h1, h2⟩ := h.inner j y r hy hr
      refine ⟨h1, h2.kept hg ?_⟩
      cases hv : y.val.ownBlock with
      | none => exact .inl rfl
      | some g => exact .inr fun he => h.apart j k y x hjk hy hx g hv he.symm

theorem set_same {α : Type} {l : List α} {k : Nat} {x : α} (h : l[k]? = some x) : l.set k x = l := by
  apply List.ext_getElem?
  intro j
  by_cases hj : j = k
  · subst hj
    rw [List.getElem?_set_self (List.getElem?_eq_some_iff.1 h).1, h]
  · rw [List.getElem?_set_ne (fun e => hj e.symm)]
def marksSS : Int → List Nat → List (List Value)
  | _, [] => []
  | k, n :: ns => marks k n :: marksSS (k + n) ns
theorem marksSS_len (k : Int) (ns : List Nat) : (marksSS k ns).length = ns.length := by
  induction ns generalizing k with
  | nil => rfl
  | cons n ns ih => simp [marksSS, ih]
theorem marksSS_get {k : Int} {ns : List Nat} {j n : Nat} (h : ns[j]? = some n) : (marksSS k ns)[j]? = some (marks (k + ((ns.take j).sum : Nat)) n) := by
  induction ns generalizing k j with
  | nil => simp at h
  | cons m ns ih =>
    cases j with
    | zero => simp at h; subst h; simp [marksSS]
    | succ j =>
      simp at h
      simp only [marksSS, List.getElem?_cons_succ, ih h, List.take_succ_cons, List.sum_cons]
      congr 2
      omega
theorem marksSS_map (k : Int) (ns : List Nat) : (marksSS k ns).map List.length = ns := by
  induction ns generalizing k with
  | nil => rfl
  | cons n ns ih => simp [marksSS, ih, marks_len]
theorem sum_take_le (ns : List Nat) (j : Nat) : (ns.take j).sum ≤ ns.sum := by
  induction ns generalizing j with
  | nil => simp
  | cons n ns ih =>
    cases j with
    | zero => simp
    | succ j => simp only [List.take_succ_cons, List.sum_cons]; have := ih j; omega
theorem sum_take_succ {ns : List Nat} {j n : Nat} (h : ns[j]? = some n) : (ns.take (j + 1)).sum = (ns.take j).sum + n := by
  rw [List.take_add_one, h]
  simp
theorem elem_le_sum {ns : List Nat} {j n : Nat} (h : ns[j]? = some n) : n ≤ ns.sum := by
  have h1 := sum_take_succ h
  have h2 := sum_take_le ns (j + 1)
  omega

end Go.Proofs.YtbhkcbfmlniamaaDoor
