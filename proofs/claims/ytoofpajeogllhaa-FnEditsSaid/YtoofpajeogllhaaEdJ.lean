/-
  Draws of edits: what the laws draw.
-/
import Derived.Test.YtoofpajeogllhaaEdI
import Derived.BigRegion
namespace Go.Proofs.Ytoofpajeogllhaa
open Go.RowKit

set_option maxHeartbeats 8000000 in
set_option maxRecDepth 20000 in
theorem d_ApplyEdit (A : Option Addr) (cc : Nat) (bs : List UInt8) (w : World) (hl : bs.length ≤ 9223372036854775807) (hr : Rd w A bs) :
    Calls Try.prog 5 #[.slice A bs.length cc] w fun e w' => ∃ (l : List (Int × Int)) (B : Option Addr) (c : Nat) (ed p b1 b2 a1 a2 : Int), e = .returned (.tuple #[.slice B l.length c, .agg #[.int .i64 ed, .int .i64 p, .int .i64 b1, .int .i64 b2, .int .i64 a1, .int .i64 a2]]) ∧ l.length ≤ 13 ∧ w'.ownsRow w.heap.size 26 2 (.slice B l.length c) l.length (flat l) ∧ Gw w w' := by
  have hC0 : CurP w ((w.alloc (.cells #[.int .i64 0, .int .i64 0, .int .i64 0, .int .i64 0, .int .i64 0, .int .i64 0] 28)).alloc (.cells #[.slice A bs.length cc, .int .i64 0, .int .u64 0] 54)) (w.heap.size + 1) 0 := by
    have := CurP.new (c := cc) hr hl (W := w.alloc (.cells #[.int .i64 0, .int .i64 0, .int .i64 0, .int .i64 0, .int .i64 0, .int .i64 0] 28)) ((Gw.refl w).alloc _)
    simpa using this
  have bx0 := (BoxR.new w #[.int .i64 0, .int .i64 0, .int .i64 0, .int .i64 0, .int .i64 0, .int .i64 0] 28).gw ((Gw.refl _).alloc (.cells #[.slice A bs.length cc, .int .i64 0, .int .u64 0] 54))
  have hne : ¬((some (w.heap.size + 1) : Option Nat) = some w.heap.size) := fun e => by have := Option.some.inj e; omega
  go_enter Try.func5, Try.ntmps5
  go_wp2_with fail
  refine (s_anyChart (w0 := w) hC0 (by omega)).mono ?_
  rintro _ w1 ⟨l, B, n, c, rfl, rfl, hn, -, hown, hC1, hr1⟩
  simp at hown
  have bx1 := bx0.grown hr1 hne
  have hz1 := hr1.size; (try simp at hz1)
  clear hr1 bx0
  go_wp2_with fail
  refine (s_editOf (w0 := w) hC1 (by omega) l B l.length c rfl hn hown (by omega)).mono ?_
  rintro _ w2 ⟨ed, p, b1, b2, a1, a2, rfl, hC2, hr2⟩
  have bx2 := bx1.grown hr2 hne
  have hown2 := own_grow hown hr2 (by omega)
  have hz2 := hr2.size
  have hap : ¬(Value.slice B l.length c).ownBlock = some w.heap.size := fun e => by have := (hown2.lt _ e).1; omega
  clear hr2 bx1 hown
  have z0 := bx2.cell 0 rfl
  have y0 := bx2.free 0
  have z1 := bx2.cell 1 rfl
  have y1 := bx2.free 1
  have z2 := bx2.cell 2 rfl
  have y2 := bx2.free 2
  have z3 := bx2.cell 3 rfl
  have y3 := bx2.free 3
  have z4 := bx2.cell 4 rfl
  have y4 := bx2.free 4
  have z5 := bx2.cell 5 rfl
  have y5 := bx2.free 5
  have hq := Lib.hid ((((((bx2.set 0 (.int .i64 ed)).set 1 (.int .i64 p)).set 2 (.int .i64 b1)).set 3 (.int .i64 b2)).set 4 (.int .i64 a1)).set 5 (.int .i64 a2))
  have hC9 := Lib.hid ((((((hC2.set (p := ⟨w.heap.size, 0, none⟩) (by exact Nat.le_refl _) (by show ¬w.heap.size = w.heap.size + 1; omega) (.int .i64 ed)).set (p := ⟨w.heap.size, 1, none⟩) (by exact Nat.le_refl _) (by show ¬w.heap.size = w.heap.size + 1; omega) (.int .i64 p)).set (p := ⟨w.heap.size, 2, none⟩) (by exact Nat.le_refl _) (by show ¬w.heap.size = w.heap.size + 1; omega) (.int .i64 b1)).set (p := ⟨w.heap.size, 3, none⟩) (by exact Nat.le_refl _) (by show ¬w.heap.size = w.heap.size + 1; omega) (.int .i64 b2)).set (p := ⟨w.heap.size, 4, none⟩) (by exact Nat.le_refl _) (by show ¬w.heap.size = w.heap.size + 1; omega) (.int .i64 a1)).set (p := ⟨w.heap.size, 5, none⟩) (by exact Nat.le_refl _) (by show ¬w.heap.size = w.heap.size + 1; omega) (.int .i64 a2))
  have hO9 := Lib.hid (own_setB (own_setB (own_setB (own_setB (own_setB (own_setB hown2 hap 0 (.int .i64 ed)) hap 1 (.int .i64 p)) hap 2 (.int .i64 b1)) hap 3 (.int .i64 b2)) hap 4 (.int .i64 a1)) hap 5 (.int .i64 a2))
  go_wp2_with fail
  have q0 := hq.out.cell 0 rfl
  have q1 := hq.out.cell 1 rfl
  have q2 := hq.out.cell 2 rfl
  have q3 := hq.out.cell 3 rfl
  have q4 := hq.out.cell 4 rfl
  have q5 := hq.out.cell 5 rfl
  exact bodyPost_ret (v := .tuple #[.slice B l.length c, .agg #[.int .i64 ed, .int .i64 p, .int .i64 b1, .int .i64 b2, .int .i64 a1, .int .i64 a2]]) (by simp [results, Try.results5, go_sem, q0, q1, q2, q3, q4, q5]) rfl ⟨l, B, c, ed, p, b1, b2, a1, a2, rfl, hn, own_lower hO9.out (by omega), hC9.out.gw⟩

set_option maxHeartbeats 8000000 in
set_option maxRecDepth 20000 in
theorem d_ApplyEdits (A : Option Addr) (cc : Nat) (bs : List UInt8) (w : World) (hl : bs.length ≤ 9223372036854775807) (hr : Rd w A bs) :
    Calls Try.prog 12 #[.slice A bs.length cc] w fun e w' => ∃ (l : List (Int × Int)) (B : Option Addr) (c : Nat) (es : List Ed6) (E : Option Addr) (ce : Nat), e = .returned (.tuple #[.slice B l.length c, .slice E es.length ce]) ∧ l.length ≤ 13 ∧ es.length ≤ 31 ∧ w'.ownsRow w.heap.size 26 2 (.slice B l.length c) l.length (flat l) ∧ w'.ownsRow w.heap.size 28 6 (.slice E es.length ce) es.length (flat es) ∧ Gw w w' := by
  have hC0 := CurP.new (c := cc) hr hl (Gw.refl w)
  go_enter Try.func12, Try.ntmps12
  go_wp2_with fail
  refine (s_anyChart (w0 := w) hC0 (by omega)).mono ?_
  rintro _ w1 ⟨l, B, n, c, rfl, rfl, hn, -, hown, hC1, hr1⟩
  simp at hown
  have hz1 := hr1.size; (try simp at hz1)
  go_wp2_with fail
  refine (s_edits (w0 := w) hC1 (by omega) l B c hn hown (by omega) (by omega)).mono ?_
  rintro _ w2 ⟨es, E, ce, rfl, hes, hownE, hC2, hr2⟩
  have hown2 := own_grow hown hr2 (by omega)
  go_wp2_with fail
  go_ret2
  exact ⟨l, B, c, es, E, ce, rfl, hn, hes, own_lower hown2 (by omega), own_lower hownE (by omega), hC2.gw⟩

end Go.Proofs.Ytoofpajeogllhaa
