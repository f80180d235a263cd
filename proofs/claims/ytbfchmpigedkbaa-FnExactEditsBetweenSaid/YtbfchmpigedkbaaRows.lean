/-
  No cell of these rows narrows 'for every input' (looked for: loops, veiled, ifaces, maps, wideKeys, modest, calm, conditions, laid).
  DERIVED. THE GIVEN ROWS OF THIS SEAT. 3 by the template 'for every input the law returns true; each argument reads behind the call as it read before'; 0 by the template 'total and deterministic' (their statements: YtbfchmpigedkbaaTotals.lean).
  GIVEN WITH THE SEED: the statements are not yours to turn. If you find one false, say at which input.
  Laid BY PROGRAM, IN A SANDBOX (cutbox-rows.mjs): the forced cells as the released guide's own fill.sh prints them over the translation bc9042cba74c3168… (all of the seat's roots in one cut). By AI agents, Wed Nov 11 2026. No macro, syntax, notation, axiom, sorry.
-/
import Derived.Test.YtbfchmpigedkbaaChecked
import GoSem.Claim
import GoSem.ClaimJoined
import GoSem.ClaimMapViews
import Derived.JoinedTies
import Derived.KernelRfl
namespace Go.Proofs.Ytbfchmpigedkbaa
/- THE CELL 'sum', in the pinned program and in every row, IS THE sha256 OF THE DUMP (.gsa) THAT YtbfchmpigedkbaaProg.lean LOADS. Nothing in Lean hashes anything: it is a label: what it is worth is what the hold of that sum in a sandbox is worth. -/
noncomputable def Try.pinned : Pinned := { name := "ytbfchmpigedkbaa", sum := "bc9042cba74c316896c44be32e91262b6a48478e9a08813f998ebeceab1488ce", checked := Try.checked }
namespace Rows
def none {H : Type} : Left H := { results := [], args := [] }

/-- 'laws.FnExactTouchedBy': WHATEVER THE INPUT: true; the input reads as it did. -/
def fnExactTouchedBySpec : ChangeSpec := { name := "fnExactTouchedBy", fn := fun _ => fun
  | [d1, d2] => { results := [.lit (.bool true)], args := [d1, d2] }
  | _ => none }
def fnExactTouchedByRow : OpenClaim := { program := "ytbfchmpigedkbaa", sum := "bc9042cba74c316896c44be32e91262b6a48478e9a08813f998ebeceab1488ce", func := "loop.example/g00939/laws.FnExactTouchedBy", spec := "fnExactTouchedBy", unfollowed := true, recurses := true, apart := false }
def FnExactTouchedBySaid : Prop := fnExactTouchedByRow.holds Try.pinned (OpenSpec.ofChange fnExactTouchedBySpec)

/-- ITS FALSE NEIGHBOUR: 'it returns false'. Refute it at one input. -/
def fnExactTouchedByWrong : ChangeSpec := { name := "fnExactTouchedBy", fn := fun _ => fun
  | [d1, d2] => { results := [.lit (.bool false)], args := [d1, d2] }
  | _ => none }
def FnExactTouchedByWrongFalsely : Prop := fnExactTouchedByRow.holds Try.pinned (OpenSpec.ofChange fnExactTouchedByWrong)

/-- 'laws.FnExactSquashEdits': WHATEVER THE INPUT: true; the input reads as it did. -/
def fnExactSquashEditsSpec : ChangeSpec := { name := "fnExactSquashEdits", fn := fun _ => fun
  | [d] => { results := [.lit (.bool true)], args := [d] }
  | _ => none }
def fnExactSquashEditsRow : OpenClaim := { program := "ytbfchmpigedkbaa", sum := "bc9042cba74c316896c44be32e91262b6a48478e9a08813f998ebeceab1488ce", func := "loop.example/g00939/laws.FnExactSquashEdits", spec := "fnExactSquashEdits", apart := false }
def FnExactSquashEditsSaid : Prop := fnExactSquashEditsRow.holds Try.pinned (OpenSpec.ofChange fnExactSquashEditsSpec)

/-- ITS FALSE NEIGHBOUR: 'it returns false'. Refute it at one input. -/
def fnExactSquashEditsWrong : ChangeSpec := { name := "fnExactSquashEdits", fn := fun _ => fun
  | [d] => { results := [.lit (.bool false)], args := [d] }
  | _ => none }
def FnExactSquashEditsWrongFalsely : Prop := fnExactSquashEditsRow.holds Try.pinned (OpenSpec.ofChange fnExactSquashEditsWrong)

/-- 'laws.FnExactEditsBetween': WHATEVER THE INPUT: true; the input reads as it did. -/
def fnExactEditsBetweenSpec : ChangeSpec := { name := "fnExactEditsBetween", fn := fun _ => fun
  | [d1, d2, d3] => { results := [.lit (.bool true)], args := [d1, d2, d3] }
  | _ => none }
def fnExactEditsBetweenRow : OpenClaim := { program := "ytbfchmpigedkbaa", sum := "bc9042cba74c316896c44be32e91262b6a48478e9a08813f998ebeceab1488ce", func := "loop.example/g00939/laws.FnExactEditsBetween", spec := "fnExactEditsBetween", apart := false }
def FnExactEditsBetweenSaid : Prop := fnExactEditsBetweenRow.holds Try.pinned (OpenSpec.ofChange fnExactEditsBetweenSpec)

/-- ITS FALSE NEIGHBOUR: 'it returns false'. Refute it at one input. -/
def fnExactEditsBetweenWrong : ChangeSpec := { name := "fnExactEditsBetween", fn := fun _ => fun
  | [d1, d2, d3] => { results := [.lit (.bool false)], args := [d1, d2, d3] }
  | _ => none }
def FnExactEditsBetweenWrongFalsely : Prop := fnExactEditsBetweenRow.holds Try.pinned (OpenSpec.ofChange fnExactEditsBetweenWrong)

/- THE SECOND FORM. 'bulk': how many values and letters a reading holds, each counted each time it is reached (what is shared counts as often as it is met; a slice's spare places count too). A statement '..UptoSaid' is the law's where the arguments, and the package variables that the reading takes, are together of bulk at most 1048576: NARROWER than '..Said'. Prove '..Said' where nothing that the law and all that it calls make is longer than what came in: it says more and counts as full. Else prove '..UptoSaid'. A law counts once. -/
mutual
def uptoBulk {H : Type} : DataW H → Nat
  | .lit (.string bytes) => bytes.length + 1
  | .lit _ => 1
  | .nil => 1
  | .ptr d => uptoBulk d + 1
  | .slice elems spare => uptoBulkAll elems + uptoBulkAll spare + 1
  | .agg parts => uptoBulkAll parts + 1
  | .iface _ d => uptoBulk d + 1
  | .map entries => uptoBulkEntries entries + 1
  | .held _ => 1
def uptoBulkAll {H : Type} : List (DataW H) → Nat
  | [] => 0
  | d :: r => uptoBulk d + uptoBulkAll r
def uptoBulkEntries {H : Type} : List (Lit × DataW H) → Nat
  | [] => 0
  | x :: r => uptoBulkEntry x + uptoBulkEntries r
def uptoBulkEntry {H : Type} : Lit × DataW H → Nat
  | (.string bytes, d) => bytes.length + uptoBulk d + 1
  | (_, d) => uptoBulk d + 1
 end
def uptoSmall : (H : Type) → List (DataW H) → Bool := fun _ ds => decide (uptoBulkAll ds ≤ 1048576)
def OpenSpec.upto (s : _root_.Go.ChangeSpec) : _root_.Go.OpenSpec := { _root_.Go.OpenSpec.ofChange s with cond := some uptoSmall }

/-- 'laws.FnExactTouchedBy', WHERE WHAT IT READS IS OF BULK AT MOST 1048576: true; the input reads as it did. -/
def fnExactTouchedByUptoRow : OpenClaim := { program := "ytbfchmpigedkbaa", sum := "bc9042cba74c316896c44be32e91262b6a48478e9a08813f998ebeceab1488ce", func := "loop.example/g00939/laws.FnExactTouchedBy", spec := "fnExactTouchedBy", unfollowed := true, recurses := true, apart := false, narrowed := true }
def FnExactTouchedByUptoSaid : Prop := fnExactTouchedByUptoRow.holds Try.pinned (OpenSpec.upto fnExactTouchedBySpec)

/-- 'laws.FnExactSquashEdits', WHERE WHAT IT READS IS OF BULK AT MOST 1048576: true; the input reads as it did. -/
def fnExactSquashEditsUptoRow : OpenClaim := { program := "ytbfchmpigedkbaa", sum := "bc9042cba74c316896c44be32e91262b6a48478e9a08813f998ebeceab1488ce", func := "loop.example/g00939/laws.FnExactSquashEdits", spec := "fnExactSquashEdits", apart := false, narrowed := true }
def FnExactSquashEditsUptoSaid : Prop := fnExactSquashEditsUptoRow.holds Try.pinned (OpenSpec.upto fnExactSquashEditsSpec)

/-- 'laws.FnExactEditsBetween', WHERE WHAT IT READS IS OF BULK AT MOST 1048576: true; the input reads as it did. -/
def fnExactEditsBetweenUptoRow : OpenClaim := { program := "ytbfchmpigedkbaa", sum := "bc9042cba74c316896c44be32e91262b6a48478e9a08813f998ebeceab1488ce", func := "loop.example/g00939/laws.FnExactEditsBetween", spec := "fnExactEditsBetween", apart := false, narrowed := true }
def FnExactEditsBetweenUptoSaid : Prop := fnExactEditsBetweenUptoRow.holds Try.pinned (OpenSpec.upto fnExactEditsBetweenSpec)

end Rows
end Go.Proofs.Ytbfchmpigedkbaa
