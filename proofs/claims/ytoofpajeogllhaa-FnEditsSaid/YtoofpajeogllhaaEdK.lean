/-
  Draws of edits: one to undo.
-/
import Derived.Test.YtoofpajeogllhaaEdI
import Derived.BigRegion
namespace Go.Proofs.Ytoofpajeogllhaa
open Go.RowKit

set_option maxHeartbeats 8000000 in
set_option maxRecDepth 20000 in
theorem d_UndoEdit (A : Option Addr) (cc : Nat) (bs : List UInt8) (w : World) (hl : bs.length ≤ 9223372036854775807) (hr : Rd w A bs) :
    Calls Try.prog 23 #[.slice A bs.length cc] w fun e w' => ∃ (l : List (Int × Int)) (B : Option Addr) (c : Nat) (ed p b1 b2 a1 a2 : Int), e = .returned (.tuple #[.slice B l.length c, .agg #[.int .i64 ed, .int .i64 p, .int .i64 b1, .int .i64 b2, .int .i64 a1, .int .i64 a2]]) ∧ l.length ≤ 13 ∧ w'.ownsRow w.heap.size 26 2 (.slice B l.length c) l.length (flat l) ∧ Gw w w' := by
  have hC0 : CurP w ((w.alloc (.cells #[.int .i64 0, .int .i64 0, .int .i64 0, .int .i64 0, .int .i64 0, .int .i64 0] 28)).alloc (.cells #[.slice A bs.length cc, .int .i64 0, .int .u64 0] 54)) (w.heap.size + 1) 0 := by
    have := CurP.new (c := cc) hr hl (W := w.alloc (.cells #[.int .i64 0, .int .i64 0, .int .i64 0, .int .i64 0, .int .i64 0, .int .i64 0] 28)) ((Gw.refl w).alloc _)
    simpa using this
  have bx0 := (BoxR.new w #[.int .i64 0, .int .i64 0, .int .i64 0, .int .i64 0, .int .i64 0, .int .i64 0] 28).gw ((Gw.refl _).alloc (.cells #[.slice A bs.length cc, .int .i64 0, .int .u64 0] 54))
  have hne : ¬((some (w.heap.size + 1) : Option Nat) = some w.heap.size) := fun e => by have := Option.some.inj e; omega
  go_enter Try.func23, Try.ntmps23
  go_wp2_with fail
  refine (s_anyChart (w0 := w) hC0 (by omega)).mono ?_
  rintro _ w1 ⟨l, B, n, c, rfl, rfl, hn, -, hown, hC1, hr1⟩
  simp at hown
  have bx1 := bx0.grown hr1 hne
  have hz1 := hr1.size; (try simp at hz1)
  clear hr1 bx0
  go_wp2_with fail
  refine (s_editOf (w0 := w) hC1 (by omega) l B l.length c rfl hn hown (by omega)).mono ?_
  rintro _ w2 ⟨ed, p, b1, b2, a1, a2, rfl, hC2, hr2⟩
  have bx2 := bx1.grown hr2 hne
  have hown2 := own_grow hown hr2 (by omega)
  have hz2 := hr2.size
  have hap : ¬(Value.slice B l.length c).ownBlock = some w.heap.size := fun e => by have := (hown2.lt _ e).1; omega
  clear hr2 bx1 hown
  have bE := BoxR.new w2 #[.int .i64 ed, .int .i64 p, .int .i64 b1, .int .i64 b2, .int .i64 a1, .int .i64 a2] 28
  have bx3 := bx2.gw ((Gw.refl w2).alloc (.cells #[.int .i64 ed, .int .i64 p, .int .i64 b1, .int .i64 b2, .int .i64 a1, .int .i64 a2] 28))
  have hC3 := hC2.alloc (.cells #[.int .i64 ed, .int .i64 p, .int .i64 b1, .int .i64 b2, .int .i64 a1, .int .i64 a2] 28)
  have hown3 := hown2.alloc (.cells #[.int .i64 ed, .int .i64 p, .int .i64 b1, .int .i64 b2, .int .i64 a1, .int .i64 a2] 28)
  have hlE : w2.heap.size < (w2.alloc (.cells #[.int .i64 ed, .int .i64 p, .int .i64 b1, .int .i64 b2, .int .i64 a1, .int .i64 a2] 28)).heap.size := by simp
  clear bx2 hC2 hown2
  go_upto_region 4 with fail
  generalize w2.alloc (.cells #[.int .i64 ed, .int .i64 p, .int .i64 b1, .int .i64 b2, .int .i64 a1, .int .i64 a2] 28) = w3 at *
  have bEd := bE.gw ((Gw.refl w3).drew)
  have hw3 : w.heap.size < w3.heap.size := by omega
  have e0 := bE.cell 0 rfl
  have e1 := bE.cell 1 rfl
  have e2 := bE.cell 2 rfl
  have e3 := bE.cell 3 rfl
  have e4 := bE.cell 4 rfl
  have e5 := bE.cell 5 rfl
  have x0 := bx3.cell 0 rfl
  have k0 := bx3.free 0
  have x1 := bx3.cell 1 rfl
  have k1 := bx3.free 1
  have x2 := bx3.cell 2 rfl
  have k2 := bx3.free 2
  have x3 := bx3.cell 3 rfl
  have k3 := bx3.free 3
  have x4 := bx3.cell 4 rfl
  have k4 := bx3.free 4
  have x5 := bx3.cell 5 rfl
  have k5 := bx3.free 5
  have z0 := bx3.cell 0 rfl
  have y0 := bx3.free 0
  have z1 := bx3.cell 1 rfl
  have y1 := bx3.free 1
  have z2 := bx3.cell 2 rfl
  have y2 := bx3.free 2
  have z3 := bx3.cell 3 rfl
  have y3 := bx3.free 3
  have z4 := bx3.cell 4 rfl
  have y4 := bx3.free 4
  have z5 := bx3.cell 5 rfl
  have y5 := bx3.free 5
  have hq := Lib.hid ((((((bx3.set 0 (.int .i64 ed)).set 1 (.int .i64 p)).set 2 (.int .i64 a1)).set 3 (.int .i64 a2)).set 4 (.int .i64 b1)).set 5 (.int .i64 b2))
  have hC9 := Lib.hid ((((((hC3.set (p := ⟨w.heap.size, 0, none⟩) (by exact Nat.le_refl _) (by show ¬w.heap.size = w.heap.size + 1; omega) (.int .i64 ed)).set (p := ⟨w.heap.size, 1, none⟩) (by exact Nat.le_refl _) (by show ¬w.heap.size = w.heap.size + 1; omega) (.int .i64 p)).set (p := ⟨w.heap.size, 2, none⟩) (by exact Nat.le_refl _) (by show ¬w.heap.size = w.heap.size + 1; omega) (.int .i64 a1)).set (p := ⟨w.heap.size, 3, none⟩) (by exact Nat.le_refl _) (by show ¬w.heap.size = w.heap.size + 1; omega) (.int .i64 a2)).set (p := ⟨w.heap.size, 4, none⟩) (by exact Nat.le_refl _) (by show ¬w.heap.size = w.heap.size + 1; omega) (.int .i64 b1)).set (p := ⟨w.heap.size, 5, none⟩) (by exact Nat.le_refl _) (by show ¬w.heap.size = w.heap.size + 1; omega) (.int .i64 b2))
  have hO9 := Lib.hid (own_setB (own_setB (own_setB (own_setB (own_setB (own_setB hown3 hap 0 (.int .i64 ed)) hap 1 (.int .i64 p)) hap 2 (.int .i64 a1)) hap 3 (.int .i64 a2)) hap 4 (.int .i64 b1)) hap 5 (.int .i64 b2))
  have hK := Lib.hid (((((((bE.other (p := ⟨w.heap.size, 0, none⟩) (by show ¬w2.heap.size = w.heap.size; omega) (.int .i64 ed)).other (p := ⟨w.heap.size, 1, none⟩) (by show ¬w2.heap.size = w.heap.size; omega) (.int .i64 p)).other (p := ⟨w.heap.size, 2, none⟩) (by show ¬w2.heap.size = w.heap.size; omega) (.int .i64 a1)).other (p := ⟨w.heap.size, 3, none⟩) (by show ¬w2.heap.size = w.heap.size; omega) (.int .i64 a2)).other (p := ⟨w.heap.size, 4, none⟩) (by show ¬w2.heap.size = w.heap.size; omega) (.int .i64 b1)).other (p := ⟨w.heap.size, 5, none⟩) (by show ¬w2.heap.size = w.heap.size; omega) (.int .i64 b2)).gw (Gw.refl _).drew)
  have hKK := And.intro (hK.out.cell 0 (v := .int .i64 ed) rfl) (And.intro (hK.out.cell 1 (v := .int .i64 p) rfl) (And.intro (hK.out.cell 2 (v := .int .i64 b1) rfl) (And.intro (hK.out.cell 3 (v := .int .i64 b2) rfl) (And.intro (hK.out.cell 4 (v := .int .i64 a1) rfl) (hK.out.cell 5 (v := .int .i64 a2) rfl)))))
  have hq := Lib.hid (hq.out.gw (Gw.refl _).drew)
  have hC9 := Lib.hid (hC9.out.to (Gw.refl _).drew)
  have hO9 := Lib.hid (own_gw hO9.out (Gw.refl _).drew)
  have hS := (⟨e0, e1, e2, e3, e4, e5⟩ : w3.cell? ⟨w2.heap.size, 0, none⟩ = some (.int .i64 ed) ∧ w3.cell? ⟨w2.heap.size, 1, none⟩ = some (.int .i64 p) ∧ w3.cell? ⟨w2.heap.size, 2, none⟩ = some (.int .i64 b1) ∧ w3.cell? ⟨w2.heap.size, 3, none⟩ = some (.int .i64 b2) ∧ w3.cell? ⟨w2.heap.size, 4, none⟩ = some (.int .i64 a1) ∧ w3.cell? ⟨w2.heap.size, 5, none⟩ = some (.int .i64 a2))
  go_region_held3 (fun u => u.cell? ⟨w2.heap.size, 0, none⟩ = some (.int .i64 ed) ∧ u.cell? ⟨w2.heap.size, 1, none⟩ = some (.int .i64 p) ∧ u.cell? ⟨w2.heap.size, 2, none⟩ = some (.int .i64 b1) ∧ u.cell? ⟨w2.heap.size, 3, none⟩ = some (.int .i64 b2) ∧ u.cell? ⟨w2.heap.size, 4, none⟩ = some (.int .i64 a1) ∧ u.cell? ⟨w2.heap.size, 5, none⟩ = some (.int .i64 a2)) (first | with_reducible assumption | go_keep) (fail)
  go_wp2_with fail
  have q0 := hq.out.cell 0 rfl
  have q1 := hq.out.cell 1 rfl
  have q2 := hq.out.cell 2 rfl
  have q3 := hq.out.cell 3 rfl
  have q4 := hq.out.cell 4 rfl
  have q5 := hq.out.cell 5 rfl
  exact bodyPost_ret (v := .tuple #[.slice B l.length c, .agg #[.int .i64 ed, .int .i64 p, .int .i64 a1, .int .i64 a2, .int .i64 b1, .int .i64 b2]]) (by simp [results, Try.results23, go_sem, q0, q1, q2, q3, q4, q5]) rfl ⟨l, B, c, ed, p, a1, a2, b1, b2, rfl, hn, own_lower hO9.out (by omega), hC9.out.gw⟩

end Go.Proofs.Ytoofpajeogllhaa
