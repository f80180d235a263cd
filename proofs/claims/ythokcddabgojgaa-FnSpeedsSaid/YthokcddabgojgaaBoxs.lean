/-
  A cursor beside some boxes of the call's own.
-/
import Derived.Test.YthokcddabgojgaaEdD
namespace Go.Proofs.Ythokcddabgojgaa
open Go.RowKit

structure Bxs (w0 w : World) (g m : Nat) (W : World) (bs : List (Nat × Array Value × TypeId)) : Prop where
  cur : CurP w0 W g m
  grow : w.grownBy W (some g)
  base : w0.heap.size ≤ w.heap.size
  box : ∀ b ∈ bs, BoxR W b.1 b.2.1 b.2.2 ∧ w.heap.size ≤ b.1 ∧ ¬g = b.1
  nd : (bs.map (fun b => b.1)).Nodup
theorem Bxs.start {w0 w : World} {g m : Nat} (h : CurP w0 w g m) : Bxs w0 w g m w [] := ⟨h, World.grownBy.refl _ _, h.gw.size, fun b hb => by simp at hb, by simp⟩
theorem Bxs.call {w0 w : World} {g m m' : Nat} {W W' : World} {bs : List (Nat × Array Value × TypeId)} (h : Bxs w0 w g m W bs) (hC : CurP w0 W' g m') (hr : W.grownBy W' (some g)) : Bxs w0 w g m' W' bs :=
  ⟨hC, grownBy_trans h.grow hr, h.base, fun b hb => by
    obtain ⟨h1, h2, h3⟩ := h.box b hb
    exact ⟨h1.grown hr (fun e => h3 (Option.some.inj e)), h2, h3⟩, h.nd⟩
theorem Bxs.gw {w0 w : World} {g m : Nat} {W W' : World} {bs : List (Nat × Array Value × TypeId)} (h : Bxs w0 w g m W bs) (hg : Gw W W') : Bxs w0 w g m W' bs := h.call (h.cur.to hg) (gw_grow hg g)
theorem Bxs.alloc {w0 w : World} {g m : Nat} {W : World} {bs : List (Nat × Array Value × TypeId)} (h : Bxs w0 w g m W bs) (o : Obj) : Bxs w0 w g m (W.alloc o) bs := h.gw ((Gw.refl W).alloc o)
theorem Bxs.drew {w0 w : World} {g m : Nat} {W : World} {bs : List (Nat × Array Value × TypeId)} (h : Bxs w0 w g m W bs) : Bxs w0 w g m W.drew bs := h.gw (Gw.refl W).drew
theorem Bxs.mono {w0 w : World} {g m m' : Nat} {W : World} {bs : List (Nat × Array Value × TypeId)} (h : Bxs w0 w g m W bs) (hm : m ≤ m') : Bxs w0 w g m' W bs := ⟨h.cur.mono hm, h.grow, h.base, h.box, h.nd⟩
theorem Bxs.new {w0 w : World} {g m : Nat} {W : World} {bs : List (Nat × Array Value × TypeId)} (h : Bxs w0 w g m W bs) (cs : Array Value) (t : TypeId) : Bxs w0 w g m (W.alloc (.cells cs t)) (bs ++ [(W.heap.size, cs, t)]) := by
  have h1 := h.alloc (.cells cs t)
  refine ⟨h1.cur, h1.grow, h1.base, fun b hb => ?_, ?_⟩
  · rcases List.mem_append.1 hb with hb | hb
    · exact h1.box b hb
    · simp only [List.mem_singleton] at hb
      subst hb
      exact ⟨BoxR.new W cs t, h.grow.size, by have := CurP.lt h.cur; dsimp only; omega⟩
  · rw [List.map_append, List.nodup_append]
    refine ⟨h.nd, by simp, fun a ha b hb => ?_⟩
    simp only [List.map_cons, List.map_nil, List.mem_singleton] at hb
    obtain ⟨x, hx, rfl⟩ := List.mem_map.1 ha
    have := (h.box x hx).1.lt
    omega
theorem Bxs.set {w0 w : World} {g m : Nat} {W : World} {bs : List (Nat × Array Value × TypeId)} (h : Bxs w0 w g m W bs) (k : Nat) {b : Nat} {cs : Array Value} {t : TypeId} (hk : bs[k]? = some (b, cs, t)) (j : Nat) (v : Value) :
    Bxs w0 w g m (W.setCell ⟨b, j, none⟩ v) (bs.set k (b, cs.setIfInBounds j v, t)) := by
  have hm := List.mem_of_getElem? hk
  obtain ⟨h1, h2, h3⟩ := h.box _ hm
  have hkl := (List.getElem?_eq_some_iff.1 hk).1
  dsimp only at h1 h2 h3
  refine ⟨h.cur.set (by have := h.base; show w0.heap.size ≤ b; omega) (fun e => h3 e.symm) v, grow_set h.grow (by exact h2) v, h.base, fun x hx => ?_, ?_⟩
  · obtain ⟨i, hi⟩ := List.getElem?_of_mem hx
    by_cases hik : i = k
    · subst hik
      rw [List.getElem?_set_self hkl] at hi
      cases hi
      exact ⟨h1.set j v, h2, h3⟩
    · rw [List.getElem?_set_ne (fun e => hik e.symm)] at hi
      obtain ⟨q1, q2, q3⟩ := h.box x (List.mem_of_getElem? hi)
      refine ⟨BoxR.other q1 (fun e => ?_) v, q2, q3⟩
      have e : x.1 = b := e
      have h5 : (bs.map (fun b => b.1))[i]? = some x.1 := by rw [List.getElem?_map, hi]; rfl
      have h6 : (bs.map (fun b => b.1))[k]? = some x.1 := by rw [List.getElem?_map, hk, e]; rfl
      have := (List.getElem?_inj (l := bs.map (fun b => b.1)) (by rw [List.length_map]; exact (List.getElem?_eq_some_iff.1 hi).1) h.nd).1 (h5.trans h6.symm)
      exact hik this
  · have e : (bs.set k (b, cs.setIfInBounds j v, t)).map (fun b => b.1) = bs.map (fun b => b.1) := by
      rw [List.map_set]
      apply List.ext_getElem?
      intro i
      by_cases hik : i = k
      · subst hik
        rw [List.getElem?_set_self (by rw [List.length_map]; exact hkl), List.getElem?_map, hk]
        rfl
      · rw [List.getElem?_set_ne (fun e => hik e.symm)]
    rw [e]
    exact h.nd
theorem Bxs.at {w0 w : World} {g m : Nat} {W : World} {bs : List (Nat × Array Value × TypeId)} (h : Bxs w0 w g m W bs) (k : Nat) {b : Nat} {cs : Array Value} {t : TypeId} (hk : bs[k]? = some (b, cs, t)) : BoxR W b cs t := (h.box _ (List.mem_of_getElem? hk)).1
theorem Bxs.ne {w0 w : World} {g m : Nat} {W : World} {bs : List (Nat × Array Value × TypeId)} (h : Bxs w0 w g m W bs) (i j : Nat) {a b : Nat} {cs ds : Array Value} {t u : TypeId} (hi : bs[i]? = some (a, cs, t)) (hj : bs[j]? = some (b, ds, u)) (hij : i ≠ j) : ¬a = b := by
  intro e
  have h5 : (bs.map (fun b => b.1))[i]? = some a := by rw [List.getElem?_map, hi]; rfl
  have h6 : (bs.map (fun b => b.1))[j]? = some a := by rw [List.getElem?_map, hj, e]; rfl
  exact hij ((List.getElem?_inj (l := bs.map (fun b => b.1)) (by rw [List.length_map]; exact (List.getElem?_eq_some_iff.1 hi).1) h.nd).1 (h5.trans h6.symm))
theorem Bxs.neg {w0 w : World} {g m : Nat} {W : World} {bs : List (Nat × Array Value × TypeId)} (h : Bxs w0 w g m W bs) (i : Nat) {a : Nat} {cs : Array Value} {t : TypeId} (hi : bs[i]? = some (a, cs, t)) : ¬g = a := (h.box _ (List.mem_of_getElem? hi)).2.2
end Go.Proofs.Ythokcddabgojgaa
