/-
  No cell of these rows narrows 'for every input' (looked for: loops, veiled, ifaces, maps, wideKeys, modest, calm, conditions, laid).
  DERIVED. THE GIVEN ROWS OF THIS SEAT. 9 by the template 'for every input the law returns true; each argument reads behind the call as it read before'; 0 by the template 'total and deterministic' (their statements: YtdcdgghobjhbhaaTotals.lean).
  GIVEN WITH THE SEED: the statements are not yours to turn. If you find one false, say at which input.
  Laid BY PROGRAM, IN A SANDBOX (cutbox-rows.mjs): the forced cells as the released guide's own fill.sh prints them over the translation e1386c7a7aab6342… (all of the seat's roots in one cut). By AI agents, Wed Nov 11 2026. No macro, syntax, notation, axiom, sorry.
-/
import Derived.Test.YtdcdgghobjhbhaaChecked
import GoSem.Claim
import GoSem.ClaimJoined
import GoSem.ClaimMapViews
import Derived.JoinedTies
import Derived.KernelRfl
namespace Go.Proofs.Ytdcdgghobjhbhaa
/- THE CELL 'sum', in the pinned program and in every row, IS THE sha256 OF THE DUMP (.gsa) THAT YtdcdgghobjhbhaaProg.lean LOADS. Nothing in Lean hashes anything: it is a label: what it is worth is what the hold of that sum in a sandbox is worth. -/
noncomputable def Try.pinned : Pinned := { name := "ytdcdgghobjhbhaa", sum := "e1386c7a7aab6342255733366088d9e3a8122601d4fcefa08073a209b27b9d64", checked := Try.checked }
namespace Rows
def none {H : Type} : Left H := { results := [], args := [] }

/-- 'laws.FnExactIsEdit': WHATEVER THE INPUT: true; the input reads as it did. -/
def fnExactIsEditSpec : ChangeSpec := { name := "fnExactIsEdit", fn := fun _ => fun
  | [d] => { results := [.lit (.bool true)], args := [d] }
  | _ => none }
def fnExactIsEditRow : OpenClaim := { program := "ytdcdgghobjhbhaa", sum := "e1386c7a7aab6342255733366088d9e3a8122601d4fcefa08073a209b27b9d64", func := "loop.example/g00939/laws.FnExactIsEdit", spec := "fnExactIsEdit", apart := false }
def FnExactIsEditSaid : Prop := fnExactIsEditRow.holds Try.pinned (OpenSpec.ofChange fnExactIsEditSpec)

/-- ITS FALSE NEIGHBOUR: 'it returns false'. Refute it at one input. -/
def fnExactIsEditWrong : ChangeSpec := { name := "fnExactIsEdit", fn := fun _ => fun
  | [d] => { results := [.lit (.bool false)], args := [d] }
  | _ => none }
def FnExactIsEditWrongFalsely : Prop := fnExactIsEditRow.holds Try.pinned (OpenSpec.ofChange fnExactIsEditWrong)

/-- 'laws.FnExactLastTouch': WHATEVER THE INPUT: true; the input reads as it did. -/
def fnExactLastTouchSpec : ChangeSpec := { name := "fnExactLastTouch", fn := fun _ => fun
  | [d1, d2] => { results := [.lit (.bool true)], args := [d1, d2] }
  | _ => none }
def fnExactLastTouchRow : OpenClaim := { program := "ytdcdgghobjhbhaa", sum := "e1386c7a7aab6342255733366088d9e3a8122601d4fcefa08073a209b27b9d64", func := "loop.example/g00939/laws.FnExactLastTouch", spec := "fnExactLastTouch", apart := false }
def FnExactLastTouchSaid : Prop := fnExactLastTouchRow.holds Try.pinned (OpenSpec.ofChange fnExactLastTouchSpec)

/-- ITS FALSE NEIGHBOUR: 'it returns false'. Refute it at one input. -/
def fnExactLastTouchWrong : ChangeSpec := { name := "fnExactLastTouch", fn := fun _ => fun
  | [d1, d2] => { results := [.lit (.bool false)], args := [d1, d2] }
  | _ => none }
def FnExactLastTouchWrongFalsely : Prop := fnExactLastTouchRow.holds Try.pinned (OpenSpec.ofChange fnExactLastTouchWrong)

/-- 'laws.FnExactApplyEdit': WHATEVER THE INPUT: true; the input reads as it did. -/
def fnExactApplyEditSpec : ChangeSpec := { name := "fnExactApplyEdit", fn := fun _ => fun
  | [d1, d2] => { results := [.lit (.bool true)], args := [d1, d2] }
  | _ => none }
def fnExactApplyEditRow : OpenClaim := { program := "ytdcdgghobjhbhaa", sum := "e1386c7a7aab6342255733366088d9e3a8122601d4fcefa08073a209b27b9d64", func := "loop.example/g00939/laws.FnExactApplyEdit", spec := "fnExactApplyEdit", apart := false }
def FnExactApplyEditSaid : Prop := fnExactApplyEditRow.holds Try.pinned (OpenSpec.ofChange fnExactApplyEditSpec)

/-- ITS FALSE NEIGHBOUR: 'it returns false'. Refute it at one input. -/
def fnExactApplyEditWrong : ChangeSpec := { name := "fnExactApplyEdit", fn := fun _ => fun
  | [d1, d2] => { results := [.lit (.bool false)], args := [d1, d2] }
  | _ => none }
def FnExactApplyEditWrongFalsely : Prop := fnExactApplyEditRow.holds Try.pinned (OpenSpec.ofChange fnExactApplyEditWrong)

/-- 'laws.FnExactUndoEdit': WHATEVER THE INPUT: true; the input reads as it did. -/
def fnExactUndoEditSpec : ChangeSpec := { name := "fnExactUndoEdit", fn := fun _ => fun
  | [d1, d2] => { results := [.lit (.bool true)], args := [d1, d2] }
  | _ => none }
def fnExactUndoEditRow : OpenClaim := { program := "ytdcdgghobjhbhaa", sum := "e1386c7a7aab6342255733366088d9e3a8122601d4fcefa08073a209b27b9d64", func := "loop.example/g00939/laws.FnExactUndoEdit", spec := "fnExactUndoEdit", apart := false }
def FnExactUndoEditSaid : Prop := fnExactUndoEditRow.holds Try.pinned (OpenSpec.ofChange fnExactUndoEditSpec)

/-- ITS FALSE NEIGHBOUR: 'it returns false'. Refute it at one input. -/
def fnExactUndoEditWrong : ChangeSpec := { name := "fnExactUndoEdit", fn := fun _ => fun
  | [d1, d2] => { results := [.lit (.bool false)], args := [d1, d2] }
  | _ => none }
def FnExactUndoEditWrongFalsely : Prop := fnExactUndoEditRow.holds Try.pinned (OpenSpec.ofChange fnExactUndoEditWrong)

/-- 'laws.FnExactEditsOf': WHATEVER THE INPUT: true; the input reads as it did. -/
def fnExactEditsOfSpec : ChangeSpec := { name := "fnExactEditsOf", fn := fun _ => fun
  | [d1, d2] => { results := [.lit (.bool true)], args := [d1, d2] }
  | _ => none }
def fnExactEditsOfRow : OpenClaim := { program := "ytdcdgghobjhbhaa", sum := "e1386c7a7aab6342255733366088d9e3a8122601d4fcefa08073a209b27b9d64", func := "loop.example/g00939/laws.FnExactEditsOf", spec := "fnExactEditsOf", apart := false }
def FnExactEditsOfSaid : Prop := fnExactEditsOfRow.holds Try.pinned (OpenSpec.ofChange fnExactEditsOfSpec)

/-- ITS FALSE NEIGHBOUR: 'it returns false'. Refute it at one input. -/
def fnExactEditsOfWrong : ChangeSpec := { name := "fnExactEditsOf", fn := fun _ => fun
  | [d1, d2] => { results := [.lit (.bool false)], args := [d1, d2] }
  | _ => none }
def FnExactEditsOfWrongFalsely : Prop := fnExactEditsOfRow.holds Try.pinned (OpenSpec.ofChange fnExactEditsOfWrong)

/-- 'laws.FnExactTouchedBy': WHATEVER THE INPUT: true; the input reads as it did. -/
def fnExactTouchedBySpec : ChangeSpec := { name := "fnExactTouchedBy", fn := fun _ => fun
  | [d1, d2] => { results := [.lit (.bool true)], args := [d1, d2] }
  | _ => none }
def fnExactTouchedByRow : OpenClaim := { program := "ytdcdgghobjhbhaa", sum := "e1386c7a7aab6342255733366088d9e3a8122601d4fcefa08073a209b27b9d64", func := "loop.example/g00939/laws.FnExactTouchedBy", spec := "fnExactTouchedBy", unfollowed := true, recurses := true, apart := false }
def FnExactTouchedBySaid : Prop := fnExactTouchedByRow.holds Try.pinned (OpenSpec.ofChange fnExactTouchedBySpec)

/-- ITS FALSE NEIGHBOUR: 'it returns false'. Refute it at one input. -/
def fnExactTouchedByWrong : ChangeSpec := { name := "fnExactTouchedBy", fn := fun _ => fun
  | [d1, d2] => { results := [.lit (.bool false)], args := [d1, d2] }
  | _ => none }
def FnExactTouchedByWrongFalsely : Prop := fnExactTouchedByRow.holds Try.pinned (OpenSpec.ofChange fnExactTouchedByWrong)

/-- 'laws.FnExactSquashEdits': WHATEVER THE INPUT: true; the input reads as it did. -/
def fnExactSquashEditsSpec : ChangeSpec := { name := "fnExactSquashEdits", fn := fun _ => fun
  | [d] => { results := [.lit (.bool true)], args := [d] }
  | _ => none }
def fnExactSquashEditsRow : OpenClaim := { program := "ytdcdgghobjhbhaa", sum := "e1386c7a7aab6342255733366088d9e3a8122601d4fcefa08073a209b27b9d64", func := "loop.example/g00939/laws.FnExactSquashEdits", spec := "fnExactSquashEdits", apart := false }
def FnExactSquashEditsSaid : Prop := fnExactSquashEditsRow.holds Try.pinned (OpenSpec.ofChange fnExactSquashEditsSpec)

/-- ITS FALSE NEIGHBOUR: 'it returns false'. Refute it at one input. -/
def fnExactSquashEditsWrong : ChangeSpec := { name := "fnExactSquashEdits", fn := fun _ => fun
  | [d] => { results := [.lit (.bool false)], args := [d] }
  | _ => none }
def FnExactSquashEditsWrongFalsely : Prop := fnExactSquashEditsRow.holds Try.pinned (OpenSpec.ofChange fnExactSquashEditsWrong)

/-- 'laws.FnExactApplyEdits': WHATEVER THE INPUT: true; the input reads as it did. -/
def fnExactApplyEditsSpec : ChangeSpec := { name := "fnExactApplyEdits", fn := fun _ => fun
  | [d1, d2] => { results := [.lit (.bool true)], args := [d1, d2] }
  | _ => none }
def fnExactApplyEditsRow : OpenClaim := { program := "ytdcdgghobjhbhaa", sum := "e1386c7a7aab6342255733366088d9e3a8122601d4fcefa08073a209b27b9d64", func := "loop.example/g00939/laws.FnExactApplyEdits", spec := "fnExactApplyEdits", apart := false }
def FnExactApplyEditsSaid : Prop := fnExactApplyEditsRow.holds Try.pinned (OpenSpec.ofChange fnExactApplyEditsSpec)

/-- ITS FALSE NEIGHBOUR: 'it returns false'. Refute it at one input. -/
def fnExactApplyEditsWrong : ChangeSpec := { name := "fnExactApplyEdits", fn := fun _ => fun
  | [d1, d2] => { results := [.lit (.bool false)], args := [d1, d2] }
  | _ => none }
def FnExactApplyEditsWrongFalsely : Prop := fnExactApplyEditsRow.holds Try.pinned (OpenSpec.ofChange fnExactApplyEditsWrong)

/-- 'laws.FnExactEditsBetween': WHATEVER THE INPUT: true; the input reads as it did. -/
def fnExactEditsBetweenSpec : ChangeSpec := { name := "fnExactEditsBetween", fn := fun _ => fun
  | [d1, d2, d3] => { results := [.lit (.bool true)], args := [d1, d2, d3] }
  | _ => none }
def fnExactEditsBetweenRow : OpenClaim := { program := "ytdcdgghobjhbhaa", sum := "e1386c7a7aab6342255733366088d9e3a8122601d4fcefa08073a209b27b9d64", func := "loop.example/g00939/laws.FnExactEditsBetween", spec := "fnExactEditsBetween", apart := false }
def FnExactEditsBetweenSaid : Prop := fnExactEditsBetweenRow.holds Try.pinned (OpenSpec.ofChange fnExactEditsBetweenSpec)

/-- ITS FALSE NEIGHBOUR: 'it returns false'. Refute it at one input. -/
def fnExactEditsBetweenWrong : ChangeSpec := { name := "fnExactEditsBetween", fn := fun _ => fun
  | [d1, d2, d3] => { results := [.lit (.bool false)], args := [d1, d2, d3] }
  | _ => none }
def FnExactEditsBetweenWrongFalsely : Prop := fnExactEditsBetweenRow.holds Try.pinned (OpenSpec.ofChange fnExactEditsBetweenWrong)

/- THE SECOND FORM. 'bulk': how many values and letters a reading holds, each counted each time it is reached (what is shared counts as often as it is met; a slice's spare places count too). A statement '..UptoSaid' is the law's where the arguments, and the package variables that the reading takes, are together of bulk at most 1048576: NARROWER than '..Said'. Prove '..Said' where nothing that the law and all that it calls make is longer than what came in: it says more and counts as full. Else prove '..UptoSaid'. A law counts once. -/
mutual
def uptoBulk {H : Type} : DataW H → Nat
  | .lit (.string bytes) => bytes.length + 1
  | .lit _ => 1
  | .nil => 1
  | .ptr d => uptoBulk d + 1
  | .slice elems spare => uptoBulkAll elems + uptoBulkAll spare + 1
  | .agg parts => uptoBulkAll parts + 1
  | .iface _ d => uptoBulk d + 1
  | .map entries => uptoBulkEntries entries + 1
  | .held _ => 1
def uptoBulkAll {H : Type} : List (DataW H) → Nat
  | [] => 0
  | d :: r => uptoBulk d + uptoBulkAll r
def uptoBulkEntries {H : Type} : List (Lit × DataW H) → Nat
  | [] => 0
  | x :: r => uptoBulkEntry x + uptoBulkEntries r
def uptoBulkEntry {H : Type} : Lit × DataW H → Nat
  | (.string bytes, d) => bytes.length + uptoBulk d + 1
  | (_, d) => uptoBulk d + 1
 end
def uptoSmall : (H : Type) → List (DataW H) → Bool := fun _ ds => decide (uptoBulkAll ds ≤ 1048576)
def OpenSpec.upto (s : _root_.Go.ChangeSpec) : _root_.Go.OpenSpec := { _root_.Go.OpenSpec.ofChange s with cond := some uptoSmall }

/-- 'laws.FnExactIsEdit', WHERE WHAT IT READS IS OF BULK AT MOST 1048576: true; the input reads as it did. -/
def fnExactIsEditUptoRow : OpenClaim := { program := "ytdcdgghobjhbhaa", sum := "e1386c7a7aab6342255733366088d9e3a8122601d4fcefa08073a209b27b9d64", func := "loop.example/g00939/laws.FnExactIsEdit", spec := "fnExactIsEdit", apart := false, narrowed := true }
def FnExactIsEditUptoSaid : Prop := fnExactIsEditUptoRow.holds Try.pinned (OpenSpec.upto fnExactIsEditSpec)

/-- 'laws.FnExactLastTouch', WHERE WHAT IT READS IS OF BULK AT MOST 1048576: true; the input reads as it did. -/
def fnExactLastTouchUptoRow : OpenClaim := { program := "ytdcdgghobjhbhaa", sum := "e1386c7a7aab6342255733366088d9e3a8122601d4fcefa08073a209b27b9d64", func := "loop.example/g00939/laws.FnExactLastTouch", spec := "fnExactLastTouch", apart := false, narrowed := true }
def FnExactLastTouchUptoSaid : Prop := fnExactLastTouchUptoRow.holds Try.pinned (OpenSpec.upto fnExactLastTouchSpec)

/-- 'laws.FnExactApplyEdit', WHERE WHAT IT READS IS OF BULK AT MOST 1048576: true; the input reads as it did. -/
def fnExactApplyEditUptoRow : OpenClaim := { program := "ytdcdgghobjhbhaa", sum := "e1386c7a7aab6342255733366088d9e3a8122601d4fcefa08073a209b27b9d64", func := "loop.example/g00939/laws.FnExactApplyEdit", spec := "fnExactApplyEdit", apart := false, narrowed := true }
def FnExactApplyEditUptoSaid : Prop := fnExactApplyEditUptoRow.holds Try.pinned (OpenSpec.upto fnExactApplyEditSpec)

/-- 'laws.FnExactUndoEdit', WHERE WHAT IT READS IS OF BULK AT MOST 1048576: true; the input reads as it did. -/
def fnExactUndoEditUptoRow : OpenClaim := { program := "ytdcdgghobjhbhaa", sum := "e1386c7a7aab6342255733366088d9e3a8122601d4fcefa08073a209b27b9d64", func := "loop.example/g00939/laws.FnExactUndoEdit", spec := "fnExactUndoEdit", apart := false, narrowed := true }
def FnExactUndoEditUptoSaid : Prop := fnExactUndoEditUptoRow.holds Try.pinned (OpenSpec.upto fnExactUndoEditSpec)

/-- 'laws.FnExactEditsOf', WHERE WHAT IT READS IS OF BULK AT MOST 1048576: true; the input reads as it did. -/
def fnExactEditsOfUptoRow : OpenClaim := { program := "ytdcdgghobjhbhaa", sum := "e1386c7a7aab6342255733366088d9e3a8122601d4fcefa08073a209b27b9d64", func := "loop.example/g00939/laws.FnExactEditsOf", spec := "fnExactEditsOf", apart := false, narrowed := true }
def FnExactEditsOfUptoSaid : Prop := fnExactEditsOfUptoRow.holds Try.pinned (OpenSpec.upto fnExactEditsOfSpec)

/-- 'laws.FnExactTouchedBy', WHERE WHAT IT READS IS OF BULK AT MOST 1048576: true; the input reads as it did. -/
def fnExactTouchedByUptoRow : OpenClaim := { program := "ytdcdgghobjhbhaa", sum := "e1386c7a7aab6342255733366088d9e3a8122601d4fcefa08073a209b27b9d64", func := "loop.example/g00939/laws.FnExactTouchedBy", spec := "fnExactTouchedBy", unfollowed := true, recurses := true, apart := false, narrowed := true }
def FnExactTouchedByUptoSaid : Prop := fnExactTouchedByUptoRow.holds Try.pinned (OpenSpec.upto fnExactTouchedBySpec)

/-- 'laws.FnExactSquashEdits', WHERE WHAT IT READS IS OF BULK AT MOST 1048576: true; the input reads as it did. -/
def fnExactSquashEditsUptoRow : OpenClaim := { program := "ytdcdgghobjhbhaa", sum := "e1386c7a7aab6342255733366088d9e3a8122601d4fcefa08073a209b27b9d64", func := "loop.example/g00939/laws.FnExactSquashEdits", spec := "fnExactSquashEdits", apart := false, narrowed := true }
def FnExactSquashEditsUptoSaid : Prop := fnExactSquashEditsUptoRow.holds Try.pinned (OpenSpec.upto fnExactSquashEditsSpec)

/-- 'laws.FnExactApplyEdits', WHERE WHAT IT READS IS OF BULK AT MOST 1048576: true; the input reads as it did. -/
def fnExactApplyEditsUptoRow : OpenClaim := { program := "ytdcdgghobjhbhaa", sum := "e1386c7a7aab6342255733366088d9e3a8122601d4fcefa08073a209b27b9d64", func := "loop.example/g00939/laws.FnExactApplyEdits", spec := "fnExactApplyEdits", apart := false, narrowed := true }
def FnExactApplyEditsUptoSaid : Prop := fnExactApplyEditsUptoRow.holds Try.pinned (OpenSpec.upto fnExactApplyEditsSpec)

/-- 'laws.FnExactEditsBetween', WHERE WHAT IT READS IS OF BULK AT MOST 1048576: true; the input reads as it did. -/
def fnExactEditsBetweenUptoRow : OpenClaim := { program := "ytdcdgghobjhbhaa", sum := "e1386c7a7aab6342255733366088d9e3a8122601d4fcefa08073a209b27b9d64", func := "loop.example/g00939/laws.FnExactEditsBetween", spec := "fnExactEditsBetween", apart := false, narrowed := true }
def FnExactEditsBetweenUptoSaid : Prop := fnExactEditsBetweenUptoRow.holds Try.pinned (OpenSpec.upto fnExactEditsBetweenSpec)

end Rows
end Go.Proofs.Ytdcdgghobjhbhaa
