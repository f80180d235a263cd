/-
  What is left of a text behind some statements; bytes as plain data.
-/
import Derived.Test.YthokcddabgojgaaCur
import Derived.Deep.DeepCutAuto
namespace Go.Proofs.Ythokcddabgojgaa
open Go.ChangeShapes Go.WideShapes Go.ChangeAt Go.RowKit
/-- What is left of a text behind its first n statements. -/
def _root_.Go.Code.tailOf : Nat → Code → Code
  | 0, c => c
  | n + 1, .seq _ b => Go.Code.tailOf n b
  | _ + 1, c => c

instance : Plain UInt8 where
  ks := [.int .u8]
  kslen := rfl
  ok := fun _ => True
  of := fun cs hr0 => by
    obtain ⟨_, _, rfl, ⟨x0, rfl, h0⟩, hr1⟩ := hr0.cons
    obtain rfl := hr1.nil
    have hb : 0 ≤ x0 ∧ x0 ≤ 255 := by
      simp [Lit.wf, IntKind.min, IntKind.max, IntKind.signed, IntKind.bits] at h0
      omega
    refine ⟨UInt8.ofNat x0.toNat, ?_, trivial⟩
    show [Value.int .u8 x0] = [Value.int .u8 ((UInt8.ofNat x0.toNat).toNat : Int)]
    have : ((UInt8.ofNat x0.toNat).toNat : Int) = x0 := by
      rw [UInt8.toNat_ofNat']
      omega
    rw [this]
end Go.Proofs.Ythokcddabgojgaa
