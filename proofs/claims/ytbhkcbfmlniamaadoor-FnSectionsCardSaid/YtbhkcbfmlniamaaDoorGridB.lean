/-
  Lists of lists of integers that grow; the rows of sections, plain.
-/
import Derived.Test.YtbhkcbfmlniamaaDoorGrid
import Derived.Test.YtbhkcbfmlniamaaDoorStep
namespace Go.Proofs.YtbhkcbfmlniamaaDoor
open Go.RowKit

/-- append of one element onto a list of the call's own, and where the list lies then. -/
theorem wpList_push2 {α : Type} [Flat α] {P : Program} {w : World} {ops : Array Oper} {rest : List Oper} {o : Oper} {a : Act} {Q : Exit → Act → World → Prop} (hgd : o.guard = none) (s x : Operand) (t : TypeId)
    (ho : o.op = .call { callee := .builtin .append, args := #[s, x], argTypes := #[t, t] })
    (base : Nat) (e : TypeId) (i : TypeInfo) (z : Value) (bytes : Nat) (ht : P.underlying t = some (.slice e)) (hi : P.info? e = some i) (hz : i.zero = some z)
    (hsize : i.size = Flat.sz α) (hby : i.bytes = bytes) (hzs : z.cells.size = Flat.sz α) (hb64 : bytes ≤ 64)
    (acc : List α) (A : Option Addr) (c : Nat) (hs : a.eval s = .slice A acc.length c) (w0 : World) (y : α) (hw : w = w0.alloc (.cells (Flat.cells y).toArray e))
    (H : Nat) (hH : w0.heap.size = H) (hx : a.eval x = .slice (some ⟨H, 0, none⟩) 1 1)
    (hown : w0.ownsRow base e (Flat.sz α) (.slice A acc.length c) acc.length (flat acc)) (hlen : acc.length ≤ 1048576) (hbase : base ≤ w0.heap.size)
    (h : ∀ (acc' : List α) (A' : Option Addr) (c' : Nat) (w' : World), Hid (acc' = acc ++ [y]) → acc.length < acc'.length → acc'.length ≤ acc.length + 1 →
      w'.ownsRow base e (Flat.sz α) (.slice A' acc'.length c') acc'.length (flat acc') → w0.grownBy w' (Value.slice A acc.length c).ownBlock → ((Value.slice A' acc'.length c').ownBlock = (Value.slice A acc.length c).ownBlock ∨ (Value.slice A' acc'.length c').ownBlock = some (w0.heap.size + 1)) → (∀ u, Gw u w0 → u.heap.size ≤ base → Gw u w') →
      wpList P ops Q rest (a.put o.dst (.slice A' acc'.length c')) w') :
    wpList P ops Q (o :: rest) a w := by
  subst hw
  subst hH
  have hnews : ∀ j u, (Flat.cells y)[j]? = some u → (w0.alloc (.cells (Flat.cells y).toArray e)).cell? ((⟨w0.heap.size, 0, none⟩ : Addr).add j) = some u := by
    intro j u hu
    have hadd : (⟨w0.heap.size, 0, none⟩ : Addr).add j = ⟨w0.heap.size, j, none⟩ := by unfold Addr.add; split <;> simp_all
    rw [hadd, cell_of_row _ _ _ _ _ _ (heap_alloc_new w0 (.cells (Flat.cells y).toArray e))]
    simpa using hu
  refine wpList_append_own_at _ hgd s x t ho base e i z (Flat.sz α) bytes ht hi hz hsize hby hzs Flat.pos (.slice A acc.length c) acc.length (flat acc) hs (hown.alloc _) ⟨w0.heap.size, 0, none⟩ 1 1 (Flat.cells y) hx (by rw [Flat.len]; omega) hnews (Flat.one y) (by unfold maxLen; omega) (by
      have := Nat.mul_le_mul (show acc.length + 1 ≤ 1048577 by omega) hb64
      omega) (by simp; omega) ?_
  intro v' w' hown' hg _ hbl
  obtain ⟨A', c', rfl, _⟩ := own_form hown'
  have hl : (acc ++ [y]).length = acc.length + 1 := by simp
  have he : flat acc ++ Flat.cells y = flat (acc ++ [y]) := by rw [flat_append, flat_one]
  rw [he] at hown'
  rw [← hl] at hown' hbl ⊢
  refine h (acc ++ [y]) A' c' w' rfl (by omega) (by omega) hown' (grownBy_trans (World.grownBy_alloc w0 _ _) hg) (by simpa using hbl) (fun u hu hub => ?_)
  exact (hu.alloc _).grown hg (fun k hk => Nat.le_trans hub (hown.lt k hk).1)

theorem OwnSS.nil (w : World) (base : Nat) : OwnSS w base none 0 [] [] :=
  ⟨World.ownsRow_nil _ _ _ _, rfl, fun k x r hx => by simp at hx, fun j k x y _ hx => by simp at hx⟩
theorem OwnSS.made {w : World} {base g : Nat} (h : w.ownsRow base 27 1 (.slice (some ⟨g, 0, none⟩) 0 0) 0 []) : OwnSS w base (some ⟨g, 0, none⟩) 0 [] [] :=
  ⟨h, rfl, fun k x r hx => by simp at hx, fun j k x y _ hx => by simp at hx⟩
/-- A row is put on. -/
theorem OwnSS.push {w0 w w' : World} {base : Nat} {A A' : Option Addr} {c c' : Nat} {sv : List SV} {rs : List (List Value)} {x : SV} {r : List Value} (h0 : OwnSS w0 base A c sv rs) (hg0 : Gw w0 w) (hg : w.grownBy w' (Value.slice A sv.length c).ownBlock)
    (ho : w'.ownsRow base 27 1 (.slice A' (sv ++ [x]).length c') (sv ++ [x]).length (flat (sv ++ [x]))) (hl : x.2.1 = r.length) (hx : w.ownsRow w0.heap.size 3 1 x.val r.length r) (hb : base ≤ w0.heap.size) : OwnSS w' base A' c' (sv ++ [x]) (rs ++ [r]) := by
  have h := h0.gw hg0
  have key : ∀ {v : Value} {n : Nat} {b : Nat} {xs : List Value}, w.ownsRow b 3 1 v n xs → w'.ownsRow b 3 1 v n xs := by
    intro v n b xs hv
    refine hv.kept hg ?_
    cases hvb : v.ownBlock with
    | none => exact .inl rfl
    | some g => exact .inr fun he => types_apart (by decide) hv h.outer hvb he.symm
  refine ⟨ho, by simp [h.len], fun k y q hy hq => ?_, fun j k y z hjk hy hz g hgy hgz => ?_⟩
  · by_cases hk : k < sv.length
    · rw [List.getElem?_append_left hk] at hy
      rw [List.getElem?_append_left (by rw [← h.len]; exact hk)] at hq
      obtain ⟨h1, h2⟩ := h.inner k y q hy hq
      exact ⟨h1, key h2⟩
    · obtain rfl : k = sv.length := by
        have := (List.getElem?_eq_some_iff.1 hy).1
        simp at this
        omega
      rw [List.getElem?_concat_length] at hy
      rw [h.len, List.getElem?_concat_length] at hq
      obtain rfl := Option.some.inj hy
      obtain rfl := Option.some.inj hq
      exact ⟨hl, own_lower (key hx) hb⟩
  · have old : ∀ {i : Nat} {u : SV} {b : Nat}, sv[i]? = some u → u.val.ownBlock = some b → b < w0.heap.size := by
      intro i u b hu hub
      obtain ⟨q, hq⟩ := get_of_lt (show i < rs.length by rw [← h0.len]; exact (List.getElem?_eq_some_iff.1 hu).1)
      exact ((h0.inner i u q hu hq).2.lt b hub).2
    have new : ∀ {b : Nat}, x.val.ownBlock = some b → w0.heap.size ≤ b := fun hb' => (hx.lt _ hb').1
    have at_ : ∀ {i : Nat} {u : SV}, (sv ++ [x])[i]? = some u → sv[i]? = some u ∨ (i = sv.length ∧ u = x) := by
      intro i u hu
      by_cases hi : i < sv.length
      · rw [List.getElem?_append_left hi] at hu; exact .inl hu
      · obtain rfl : i = sv.length := by
          have := (List.getElem?_eq_some_iff.1 hu).1
          simp at this
          omega
        rw [List.getElem?_concat_length] at hu
        exact .inr ⟨rfl, (Option.some.inj hu).symm⟩
    rcases at_ hy with hy1 | ⟨hj, hyx⟩
    · rcases at_ hz with hz1 | ⟨hk, hzx⟩
      · exact h0.apart j k y z hjk hy1 hz1 g hgy hgz
      · rw [hzx] at hgz; have := old hy1 hgy; have := new hgz; omega
    · rcases at_ hz with hz1 | ⟨hk, hzx⟩
      · rw [hyx] at hgy; have := old hz1 hgz; have := new hgy; omega
      · exact hjk (hj.trans hk.symm)
/-- The outer list beside an inner row that grows. -/
theorem OwnSS.beside {w w' : World} {base : Nat} {A : Option Addr} {c k : Nat} {sv : List SV} {rs : List (List Value)} {x : SV} (h : OwnSS w base A c sv rs) (hx : sv[k]? = some x) (hg : w.grownBy w' x.val.ownBlock) : w'.ownsRow base 27 1 (.slice A sv.length c) sv.length (flat sv) := by
  refine h.outer.kept hg ?_
  cases hv : (Value.slice A sv.length c).ownBlock with
  | none => exact .inl rfl
  | some b => exact .inr fun he => h.apartO hx he.symm hv
/-- A row grows: its new slice is stored into the outer list. -/
theorem OwnSS.grow {w w' : World} {base g c k : Nat} {sv : List SV} {rs : List (List Value)} {x x' : SV} {r' : List Value} (h : OwnSS w base (some ⟨g, 0, none⟩) c sv rs) (hx : sv[k]? = some x) (hg : w.grownBy w' x.val.ownBlock)
    (hl : x'.2.1 = r'.length) (hx' : w'.ownsRow base 3 1 x'.val r'.length r') (hbl : x'.val.ownBlock = x.val.ownBlock ∨ ∃ b, x'.val.ownBlock = some b ∧ w.heap.size ≤ b) :
    OwnSS (w'.setCell ⟨g, k, none⟩ x'.val) base (some ⟨g, 0, none⟩) c (sv.set k x') (rs.set k r') ∧ w'.grownBy (w'.setCell ⟨g, k, none⟩ x'.val) (some g) := by
  have hk : k < sv.length := (List.getElem?_eq_some_iff.1 hx).1
  have ho : w'.ownsRow base 27 1 (.slice (some ⟨g, 0, none⟩) sv.length c) sv.length (flat sv) := by
    refine h.outer.kept hg ?_
    cases hv : (Value.slice (some (⟨g, 0, none⟩ : Addr)) sv.length c).ownBlock with
    | none => exact .inl rfl
    | some b => exact .inr fun he => h.apartO hx he.symm hv
  have hst := World.ownsRow.stored ho k x'.val
  have hset : (flat sv).set k x'.val = flat (sv.set k x') := by
    have : ∀ (l : List SV) (k : Nat), (flat l).set k x'.val = flat (l.set k x') := by
      intro l
      induction l with
      | nil => intro k; simp [flat]
      | cons y l ih =>
        intro k
        have hc : flat (y :: l) = y.val :: flat l := by simp [flat, Flat.cells]
        rw [hc]
        cases k with
        | zero => simp [flat, Flat.cells]
        | succ k =>
          simp only [List.set_cons_succ, ih]
          simp [flat, Flat.cells]
    exact this sv k
  rw [hset] at hst
  have key : ∀ {v : Value} {n : Nat} {b : Nat} {xs : List Value}, w'.ownsRow b 3 1 v n xs → (w'.setCell ⟨g, k, none⟩ x'.val).ownsRow b 3 1 v n xs := by
    intro v n b xs hv
    refine hv.kept hst.2 ?_
    cases hvb : v.ownBlock with
    | none => exact .inl rfl
    | some q => exact .inr fun he => types_apart (by decide) hv ho hvb (by rw [he]; rfl)
  have lt_ : ∀ {j : Nat} {u : SV} {b : Nat}, sv[j]? = some u → u.val.ownBlock = some b → b < w.heap.size := by
    intro j u b hu hub
    obtain ⟨q, hq⟩ := get_of_lt (show j < rs.length by rw [← h.len]; exact (List.getElem?_eq_some_iff.1 hu).1)
    exact ((h.inner j u q hu hq).2.lt b hub).2
  have new : ∀ {j : Nat} {u : SV} {b : Nat}, j ≠ k → sv[j]? = some u → u.val.ownBlock = some b → x'.val.ownBlock ≠ some b := by
    intro j u b hjk hu hub hxb
    rcases hbl with he | ⟨b', he, hb'⟩
    · exact h.apart j k u x hjk hu hx b hub (he ▸ hxb)
    · rw [he] at hxb
      have := lt_ hu hub
      have := Option.some.inj hxb
      omega
  refine ⟨⟨by simpa using hst.1, by simpa using h.len, fun j y q hy hq => ?_, fun j i y z hji hy hz b hby hbz => ?_⟩, hst.2⟩
  · by_cases hjk : j = k
    · subst hjk
      rw [List.getElem?_set_self hk] at hy
      rw [List.getElem?_set_self (by rw [← h.len]; exact hk)] at hq
      obtain rfl := Option.some.inj hy
      obtain rfl := Option.some.inj hq
      exact ⟨hl, key hx'⟩
    · rw [List.getElem?_set_ne (fun e => hjk e.symm)] at hy hq
      obtain ⟨h1, h2⟩ := h.inner j y q hy hq
      refine ⟨h1, key (h2.kept hg ?_)⟩
      cases hv : y.val.ownBlock with
      | none => exact .inl rfl
      | some b => exact .inr fun he => h.apart j k y x hjk hy hx b hv he.symm
  · by_cases hjk : j = k
    · subst hjk
      rw [List.getElem?_set_self hk] at hy
      obtain rfl := Option.some.inj hy
      rw [List.getElem?_set_ne hji] at hz
      exact new (fun e => hji e.symm) hz hbz hby
    · rw [List.getElem?_set_ne (fun e => hjk e.symm)] at hy
      by_cases hik : i = k
      · subst hik
        rw [List.getElem?_set_self hk] at hz
        obtain rfl := Option.some.inj hz
        exact new hjk hy hby hbz
      · rw [List.getElem?_set_ne (fun e => hik e.symm)] at hz
        exact h.apart j i y z hji hy hz b hby hbz
/-- One row's slice in the outer list. -/
theorem OwnSS.at {w : World} {base : Nat} {A : Option Addr} {c k : Nat} {sv : List SV} {rs : List (List Value)} {r : List Value} (h : OwnSS w base A c sv rs) (hr : rs[k]? = some r) :
    ∃ (g : Nat) (D : Option Addr) (d : Nat), A = some ⟨g, 0, none⟩ ∧ base ≤ g ∧ g < w.heap.size ∧ sv[k]? = some (D, r.length, d) ∧ w.cell? ⟨g, k, none⟩ = some (.slice D r.length d) ∧ w.frozen? ⟨g, k, none⟩ = false ∧ w.ownsRow base 3 1 (.slice D r.length d) r.length r := by
  obtain ⟨⟨D, n, d⟩, hx⟩ := get_of_lt (show k < sv.length by rw [h.len]; exact (List.getElem?_eq_some_iff.1 hr).1)
  obtain ⟨h1, h2⟩ := h.inner k _ r hx hr
  dsimp only at h1
  subst h1
  obtain ⟨b, off, hA, hb, hc⟩ := (own_rd h.outer).getV hx
  obtain ⟨g, rfl, hg1, hg2⟩ := own_addr h.outer (by have := (List.getElem?_eq_some_iff.1 hx).1; omega)
  obtain ⟨rfl, rfl⟩ : g = b ∧ 0 = off := by simpa using hA
  rw [Nat.zero_add] at hc
  exact ⟨g, D, d, rfl, hg1, hg2, hx, hc, World.ownsRow.frozenAt h.outer k, h2⟩
end Go.Proofs.YtbhkcbfmlniamaaDoor
