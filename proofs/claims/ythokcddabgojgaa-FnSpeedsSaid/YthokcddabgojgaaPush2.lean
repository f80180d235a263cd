/-
  append of one element onto a list of the call's own beside a cursor.
-/
import Derived.Test.YthokcddabgojgaaList
import Derived.Test.YthokcddabgojgaaStep
import Derived.Test.YthokcddabgojgaaCur
namespace Go.Proofs.Ythokcddabgojgaa
open Go.RowKit

/-- append of one element onto a list of the call's own, and where the list lies then. -/
theorem wpList_push2 {α : Type} [Flat α] {P : Program} {w : World} {ops : Array Oper} {rest : List Oper} {o : Oper} {a : Act} {Q : Exit → Act → World → Prop} (hgd : o.guard = none) (s x : Operand) (t : TypeId)
    (ho : o.op = .call { callee := .builtin .append, args := #[s, x], argTypes := #[t, t] })
    (base : Nat) (e : TypeId) (i : TypeInfo) (z : Value) (bytes : Nat) (ht : P.underlying t = some (.slice e)) (hi : P.info? e = some i) (hz : i.zero = some z)
    (hsize : i.size = Flat.sz α) (hby : i.bytes = bytes) (hzs : z.cells.size = Flat.sz α) (hb64 : bytes ≤ 64)
    (acc : List α) (A : Option Addr) (c : Nat) (hs : a.eval s = .slice A acc.length c) (w0 : World) (y : α) (hw : w = w0.alloc (.cells (Flat.cells y).toArray e))
    (H : Nat) (hH : w0.heap.size = H) (hx : a.eval x = .slice (some ⟨H, 0, none⟩) 1 1)
    (hown : w0.ownsRow base e (Flat.sz α) (.slice A acc.length c) acc.length (flat acc)) (hlen : acc.length ≤ 1048576) (hbase : base ≤ w0.heap.size)
    (h : ∀ (acc' : List α) (A' : Option Addr) (c' : Nat) (w' : World), Hid (acc' = acc ++ [y]) → acc.length < acc'.length → acc'.length ≤ acc.length + 1 →
      w'.ownsRow base e (Flat.sz α) (.slice A' acc'.length c') acc'.length (flat acc') → w0.grownBy w' (Value.slice A acc.length c).ownBlock → ((Value.slice A' acc'.length c').ownBlock = (Value.slice A acc.length c).ownBlock ∨ (Value.slice A' acc'.length c').ownBlock = some (w0.heap.size + 1)) → (∀ u, Gw u w0 → u.heap.size ≤ base → Gw u w') →
      wpList P ops Q rest (a.put o.dst (.slice A' acc'.length c')) w') :
    wpList P ops Q (o :: rest) a w := by
  subst hw
  subst hH
  have hnews : ∀ j u, (Flat.cells y)[j]? = some u → (w0.alloc (.cells (Flat.cells y).toArray e)).cell? ((⟨w0.heap.size, 0, none⟩ : Addr).add j) = some u := by
    intro j u hu
    have hadd : (⟨w0.heap.size, 0, none⟩ : Addr).add j = ⟨w0.heap.size, j, none⟩ := by unfold Addr.add; split <;> simp_all
    rw [hadd, cell_of_row _ _ _ _ _ _ (heap_alloc_new w0 (.cells (Flat.cells y).toArray e))]
    simpa using hu
  refine wpList_append_own_at _ hgd s x t ho base e i z (Flat.sz α) bytes ht hi hz hsize hby hzs Flat.pos (.slice A acc.length c) acc.length (flat acc) hs (hown.alloc _) ⟨w0.heap.size, 0, none⟩ 1 1 (Flat.cells y) hx (by rw [Flat.len]; omega) hnews (Flat.one y) (by unfold maxLen; omega) (by
      have := Nat.mul_le_mul (show acc.length + 1 ≤ 1048577 by omega) hb64
      omega) (by simp; omega) ?_
  intro v' w' hown' hg _ hbl
  obtain ⟨A', c', rfl, _⟩ := own_form hown'
  have hl : (acc ++ [y]).length = acc.length + 1 := by simp
  have he : flat acc ++ Flat.cells y = flat (acc ++ [y]) := by rw [flat_append, flat_one]
  rw [he] at hown'
  rw [← hl] at hown' hbl ⊢
  refine h (acc ++ [y]) A' c' w' rfl (by omega) (by omega) hown' (grownBy_trans (World.grownBy_alloc w0 _ _) hg) (by simpa using hbl) (fun u hu hub => ?_)
  exact (hu.alloc _).grown hg (fun k hk => Nat.le_trans hub (hown.lt k hk).1)

theorem grow_push {w wo w9 : World} {g : Nat} {row : Option Nat} (h : w.grownBy wo (some g)) (hg : wo.grownBy w9 row) (hr : ∀ k, row = some k → w.heap.size ≤ k) : w.grownBy w9 (some g) :=
  ⟨hg.os.trans h.os, hg.tape.trans h.tape, hg.output.trans h.output, Nat.le_trans h.size hg.size, fun i hi hne => (hg.block i (Nat.lt_of_lt_of_le hi h.size) (fun e => by have := hr i e.symm; omega)).trans (h.block i hi hne)⟩
theorem cur_push {w0 w wo w9 : World} {g m : Nat} {row : Option Nat} (hC : CurP w0 wo g m) (hlt : g < w.heap.size) (hw0 : w0.heap.size ≤ w.heap.size) (hg : wo.grownBy w9 row) (hr : ∀ k, row = some k → w.heap.size ≤ k) : CurP w0 w9 g m :=
  hC.keep hg (fun k hk => Nat.le_trans hw0 (hr k hk)) (fun e => by have := hr g e.symm; omega)
theorem own_cap2 {w : World} {base n c : Nat} {A : Option Addr} {e : TypeId} {size : Nat} {xs : List Value} (h : w.ownsRow base e size (.slice A n c) n xs) : n ≤ c := by
  obtain ⟨_, _, hv, hc, _, _⟩ := own_form h
  simp only [Value.slice.injEq, true_and] at hv
  obtain ⟨rfl, rfl⟩ := hv
  exact hc
def sliceLen : Value → Nat
  | .slice _ n _ => n
  | _ => 0
theorem sliceLen_mk (A : Option Addr) (n c : Nat) : sliceLen (.slice A n c) = n := rfl
end Go.Proofs.Ythokcddabgojgaa
