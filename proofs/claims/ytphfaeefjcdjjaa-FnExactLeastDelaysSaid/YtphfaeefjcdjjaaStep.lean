/-
  append of a list onto a list of the call's own, at an operation and at a step of a region that draws its order.
-/
import Derived.Test.YtphfaeefjcdjjaaAppend
import Derived.Deep.RegionHeld3
import Derived.Deep.AppendLies
namespace Go.Proofs.Ytphfaeefjcdjjaa
open Go.RowKit Go.ChangeShapes Go.WideShapes

section
variable {α : Type} [Flat α] {P : Program} {w : World}
theorem run_cat (t ty : TypeId) (base : Nat) (e : TypeId) (i : TypeInfo) (z : Value) (bytes : Nat) (ht : P.underlying t = some (.slice e)) (hi : P.info? e = some i) (hz : i.zero = some z)
    (hsize : i.size = Flat.sz α) (hby : i.bytes = bytes) (hzs : z.cells.size = Flat.sz α) (hb64 : bytes ≤ 64)
    (acc : List α) (k : Nat) (hk : acc.length = k) (A : Option Addr) (c : Nat) (ys : List α) (n : Nat) (hn : ys.length = n) (B : Option Addr) (cy : Nat) (hrd : Rd w B ys)
    (hown : w.ownsRow base e (Flat.sz α) (.slice A k c) k (flat acc)) (hlen : k ≤ 1048576) (hlen2 : n ≤ 1048576) (hbase : base ≤ w.heap.size) :
    ∃ (A' : Option Addr) (c' : Nat) (w' : World), (Builtin.append_ #[t, t] ty #[.slice A k c, .slice B n cy]).run P w = .ok (.slice A' (k + n) c') w' ∧
      w'.ownsRow base e (Flat.sz α) (.slice A' (k + n) c') (k + n) (flat (acc ++ ys)) ∧ (∀ u, Gw u w → u.heap.size ≤ base → Gw u w') ∧ w.grownBy w' (Value.slice A k c).ownBlock ∧
      ((Value.slice A' (k + n) c').ownBlock = (Value.slice A k c).ownBlock ∨ (Value.slice A' (k + n) c').ownBlock = some w.heap.size) := by
  subst hn
  subst hk
  by_cases hne : ys = []
  · subst hne
    obtain ⟨A', c', hv, hc, _⟩ := own_form hown
    simp only [Value.slice.injEq, true_and] at hv
    obtain ⟨rfl, rfl⟩ := hv
    have hr := run_append_zero (P := P) w t ty e i ht hi A B acc.length c cy hc
    exact ⟨A, c, w, hr, by simpa using hown, fun u hu _ => hu, World.grownBy.refl w _, .inl rfl⟩
  · obtain ⟨b, off, rfl, hb, hc⟩ := hrd.flat hne
    obtain ⟨v', w', hr, hown', hg, _, hat⟩ := run_append_own_at (P := P) w base t ty e i z (Flat.sz α) bytes ht hi hz hsize hby hzs Flat.pos (.slice A acc.length c) acc.length (flat acc) hown ⟨b, off, none⟩ ys.length cy (flat ys) (by rw [flat_len])
      (fun j u hu => by
        have hadd : (⟨b, off, none⟩ : Addr).add j = ⟨b, off + j, none⟩ := by unfold Addr.add; split <;> simp_all
        rw [hadd]
        exact hc j u hu) (flat_cell ys) (by unfold maxLen; omega) (by
      have := Nat.mul_le_mul (show acc.length + ys.length ≤ 2097152 by omega) hb64
      omega) hbase
    obtain ⟨A', c', rfl, _⟩ := own_form hown'
    refine ⟨A', c', w', hr, by rw [flat_append]; exact hown', fun u hu hub => hu.grown hg (fun k hk => Nat.le_trans hub (hown.lt k hk).1), hg, hat⟩

theorem wp_cat {o : Oper} {a : Act} {K : Act → World → Prop} {Q : Exit → Act → World → Prop} (s x : Operand) (t : TypeId)
    (ho : o.op = .call { callee := .builtin .append, args := #[s, x], argTypes := #[t, t] })
    (base : Nat) (e : TypeId) (i : TypeInfo) (z : Value) (bytes : Nat) (ht : P.underlying t = some (.slice e)) (hi : P.info? e = some i) (hz : i.zero = some z)
    (hsize : i.size = Flat.sz α) (hby : i.bytes = bytes) (hzs : z.cells.size = Flat.sz α) (hb64 : bytes ≤ 64)
    (acc : List α) (k : Nat) (hk : acc.length = k) (A : Option Addr) (c : Nat) (hs : a.eval s = .slice A k c) (ys : List α) (n : Nat) (hn : ys.length = n) (B : Option Addr) (cy : Nat) (hx : a.eval x = .slice B n cy) (hrd : Rd w B ys)
    (hown : w.ownsRow base e (Flat.sz α) (.slice A k c) k (flat acc)) (hlen : k ≤ 1048576) (hlen2 : n ≤ 1048576) (hbase : base ≤ w.heap.size)
    (h : ∀ (A' : Option Addr) (c' : Nat) (w' : World), w'.ownsRow base e (Flat.sz α) (.slice A' (k + n) c') (k + n) (flat (acc ++ ys)) → (∀ u, Gw u w → u.heap.size ≤ base → Gw u w') → w.grownBy w' (Value.slice A k c).ownBlock →
      K (a.put o.dst (.slice A' (k + n) c')) w') : o.wp P a w K Q := by
  obtain ⟨A', c', w', hr, h1, h2, h3, _⟩ := run_cat (P := P) t o.type base e i z bytes ht hi hz hsize hby hzs hb64 acc k hk A c ys n hn B cy hrd hown hlen hlen2 hbase
  unfold Oper.wp execOp
  simp only [ho, resolve, invoke, builtin, Sem.run_bind, Sem.run_pure, Result.andThen_ok, List.map_toArray, List.map_cons, List.map_nil, hs, hx, hr]
  exact h A' c' w' h1 h2 h3

theorem wpList_cat2 {ops : Array Oper} {rest : List Oper} {o : Oper} {a : Act} {Q : Exit → Act → World → Prop} (hgd : o.guard = none) (s x : Operand) (t : TypeId)
    (ho : o.op = .call { callee := .builtin .append, args := #[s, x], argTypes := #[t, t] })
    (base : Nat) (e : TypeId) (i : TypeInfo) (z : Value) (bytes : Nat) (ht : P.underlying t = some (.slice e)) (hi : P.info? e = some i) (hz : i.zero = some z)
    (hsize : i.size = Flat.sz α) (hby : i.bytes = bytes) (hzs : z.cells.size = Flat.sz α) (hb64 : bytes ≤ 64)
    (acc : List α) (k : Nat) (hk : acc.length = k) (A : Option Addr) (c : Nat) (hs : a.eval s = .slice A k c) (ys : List α) (n : Nat) (hn : ys.length = n) (B : Option Addr) (cy : Nat) (hx : a.eval x = .slice B n cy) (hrd : Rd w B ys)
    (hown : w.ownsRow base e (Flat.sz α) (.slice A k c) k (flat acc)) (hlen : k ≤ 1048576) (hlen2 : n ≤ 1048576) (hbase : base ≤ w.heap.size)
    (h : ∀ (A' : Option Addr) (c' : Nat) (w' : World), w'.ownsRow base e (Flat.sz α) (.slice A' (k + n) c') (k + n) (flat (acc ++ ys)) → (∀ u, Gw u w → u.heap.size ≤ base → Gw u w') → w.grownBy w' (Value.slice A k c).ownBlock →
      wpList P ops Q rest (a.put o.dst (.slice A' (k + n) c')) w') : wpList P ops Q (o :: rest) a w :=
  wpList_plain hgd fun _ hK => wp_cat s x t ho base e i z bytes ht hi hz hsize hby hzs hb64 acc k hk A c hs ys n hn B cy hx hrd hown hlen hlen2 hbase fun A' c' w' h1 h2 h3 => hK _ _ (h A' c' w' h1 h2 h3)

theorem step_cat {ops : Array Oper} {o : Oper} {a : Act} {K : Act → World → Prop} {Q : Exit → Act → World → Prop} {E : Prop} (hgd : o.guard = none) (s x : Operand) (t : TypeId)
    (ho : o.op = .call { callee := .builtin .append, args := #[s, x], argTypes := #[t, t] })
    (base : Nat) (e : TypeId) (i : TypeInfo) (z : Value) (bytes : Nat) (ht : P.underlying t = some (.slice e)) (hi : P.info? e = some i) (hz : i.zero = some z)
    (hsize : i.size = Flat.sz α) (hby : i.bytes = bytes) (hzs : z.cells.size = Flat.sz α) (hb64 : bytes ≤ 64)
    (acc : List α) (k : Nat) (hk : acc.length = k) (A : Option Addr) (c : Nat) (hs : a.eval s = .slice A k c) (ys : List α) (n : Nat) (hn : ys.length = n) (B : Option Addr) (cy : Nat) (hx : a.eval x = .slice B n cy) (hrd : Rd w B ys)
    (hown : w.ownsRow base e (Flat.sz α) (.slice A k c) k (flat acc)) (hlen : k ≤ 1048576) (hlen2 : n ≤ 1048576) (hbase : base ≤ w.heap.size)
    (h : ∀ (A' : Option Addr) (c' : Nat) (w' : World), w'.ownsRow base e (Flat.sz α) (.slice A' (k + n) c') (k + n) (flat (acc ++ ys)) → (∀ u, Gw u w → u.heap.size ≤ base → Gw u w') → w.grownBy w' (Value.slice A k c).ownBlock →
      K (a.put o.dst (.slice A' (k + n) c')) w') :
    if Region.wanted o (yielded ops a.tmps) = true then Oper.wp P o a w K Q else E := by
  have hw : Region.wanted o (yielded ops a.tmps) = true := by simp [Region.wanted, hgd]
  rw [if_pos hw]
  exact wp_cat s x t ho base e i z bytes ht hi hz hsize hby hzs hb64 acc k hk A c hs ys n hn B cy hx hrd hown hlen hlen2 hbase h
end
end Go.Proofs.Ytphfaeefjcdjjaa
