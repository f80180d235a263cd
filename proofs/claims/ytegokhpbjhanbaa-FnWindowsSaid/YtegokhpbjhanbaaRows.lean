/-
  No cell of these rows narrows 'for every input' (looked for: loops, veiled, ifaces, maps, wideKeys, modest, calm, conditions, laid).
  DERIVED. THE GIVEN ROWS OF THIS SEAT. 7 by the template 'for every input the law returns true; each argument reads behind the call as it read before'; 0 by the template 'total and deterministic' (their statements: YtegokhpbjhanbaaTotals.lean).
  GIVEN WITH THE SEED: the statements are not yours to turn. If you find one false, say at which input.
  Laid BY PROGRAM, IN A SANDBOX (cutbox-rows.mjs): the forced cells as the released guide's own fill.sh prints them over the translation 9d6d0c8194d7f552… (all of the seat's roots in one cut). By AI agents, Wed Nov 11 2026. No macro, syntax, notation, axiom, sorry.
-/
import Derived.Test.YtegokhpbjhanbaaChecked
import GoSem.Claim
import GoSem.ClaimJoined
import GoSem.ClaimMapViews
import Derived.JoinedTies
import Derived.KernelRfl
namespace Go.Proofs.Ytegokhpbjhanbaa
/- THE CELL 'sum', in the pinned program and in every row, IS THE sha256 OF THE DUMP (.gsa) THAT YtegokhpbjhanbaaProg.lean LOADS. Nothing in Lean hashes anything: it is a label: what it is worth is what the hold of that sum in a sandbox is worth. -/
noncomputable def Try.pinned : Pinned := { name := "ytegokhpbjhanbaa", sum := "9d6d0c8194d7f5529e2c179f0f424e16478de92e2f219c40396fadea82967c82", checked := Try.checked }
namespace Rows
def none {H : Type} : Left H := { results := [], args := [] }

/-- 'laws.FnExactAddWindow': WHATEVER THE INPUT: true; the input reads as it did. -/
def fnExactAddWindowSpec : ChangeSpec := { name := "fnExactAddWindow", fn := fun _ => fun
  | [d1, d2] => { results := [.lit (.bool true)], args := [d1, d2] }
  | _ => none }
def fnExactAddWindowRow : OpenClaim := { program := "ytegokhpbjhanbaa", sum := "9d6d0c8194d7f5529e2c179f0f424e16478de92e2f219c40396fadea82967c82", func := "loop.example/g00939/laws.FnExactAddWindow", spec := "fnExactAddWindow", apart := false }
def FnExactAddWindowSaid : Prop := fnExactAddWindowRow.holds Try.pinned (OpenSpec.ofChange fnExactAddWindowSpec)

/-- ITS FALSE NEIGHBOUR: 'it returns false'. Refute it at one input. -/
def fnExactAddWindowWrong : ChangeSpec := { name := "fnExactAddWindow", fn := fun _ => fun
  | [d1, d2] => { results := [.lit (.bool false)], args := [d1, d2] }
  | _ => none }
def FnExactAddWindowWrongFalsely : Prop := fnExactAddWindowRow.holds Try.pinned (OpenSpec.ofChange fnExactAddWindowWrong)

/-- 'laws.FnExactCloseHours': WHATEVER THE INPUT: true; the input reads as it did. -/
def fnExactCloseHoursSpec : ChangeSpec := { name := "fnExactCloseHours", fn := fun _ => fun
  | [d1, d2, d3] => { results := [.lit (.bool true)], args := [d1, d2, d3] }
  | _ => none }
def fnExactCloseHoursRow : OpenClaim := { program := "ytegokhpbjhanbaa", sum := "9d6d0c8194d7f5529e2c179f0f424e16478de92e2f219c40396fadea82967c82", func := "loop.example/g00939/laws.FnExactCloseHours", spec := "fnExactCloseHours", apart := false }
def FnExactCloseHoursSaid : Prop := fnExactCloseHoursRow.holds Try.pinned (OpenSpec.ofChange fnExactCloseHoursSpec)

/-- ITS FALSE NEIGHBOUR: 'it returns false'. Refute it at one input. -/
def fnExactCloseHoursWrong : ChangeSpec := { name := "fnExactCloseHours", fn := fun _ => fun
  | [d1, d2, d3] => { results := [.lit (.bool false)], args := [d1, d2, d3] }
  | _ => none }
def FnExactCloseHoursWrongFalsely : Prop := fnExactCloseHoursRow.holds Try.pinned (OpenSpec.ofChange fnExactCloseHoursWrong)

/-- 'laws.FnExactCommonWindows': WHATEVER THE INPUT: true; the input reads as it did. -/
def fnExactCommonWindowsSpec : ChangeSpec := { name := "fnExactCommonWindows", fn := fun _ => fun
  | [d1, d2] => { results := [.lit (.bool true)], args := [d1, d2] }
  | _ => none }
def fnExactCommonWindowsRow : OpenClaim := { program := "ytegokhpbjhanbaa", sum := "9d6d0c8194d7f5529e2c179f0f424e16478de92e2f219c40396fadea82967c82", func := "loop.example/g00939/laws.FnExactCommonWindows", spec := "fnExactCommonWindows", apart := false }
def FnExactCommonWindowsSaid : Prop := fnExactCommonWindowsRow.holds Try.pinned (OpenSpec.ofChange fnExactCommonWindowsSpec)

/-- ITS FALSE NEIGHBOUR: 'it returns false'. Refute it at one input. -/
def fnExactCommonWindowsWrong : ChangeSpec := { name := "fnExactCommonWindows", fn := fun _ => fun
  | [d1, d2] => { results := [.lit (.bool false)], args := [d1, d2] }
  | _ => none }
def FnExactCommonWindowsWrongFalsely : Prop := fnExactCommonWindowsRow.holds Try.pinned (OpenSpec.ofChange fnExactCommonWindowsWrong)

/-- 'laws.FnExactFreeWindows': WHATEVER THE INPUT: true; the input reads as it did. -/
def fnExactFreeWindowsSpec : ChangeSpec := { name := "fnExactFreeWindows", fn := fun _ => fun
  | [d1, d2] => { results := [.lit (.bool true)], args := [d1, d2] }
  | _ => none }
def fnExactFreeWindowsRow : OpenClaim := { program := "ytegokhpbjhanbaa", sum := "9d6d0c8194d7f5529e2c179f0f424e16478de92e2f219c40396fadea82967c82", func := "loop.example/g00939/laws.FnExactFreeWindows", spec := "fnExactFreeWindows", apart := false }
def FnExactFreeWindowsSaid : Prop := fnExactFreeWindowsRow.holds Try.pinned (OpenSpec.ofChange fnExactFreeWindowsSpec)

/-- ITS FALSE NEIGHBOUR: 'it returns false'. Refute it at one input. -/
def fnExactFreeWindowsWrong : ChangeSpec := { name := "fnExactFreeWindows", fn := fun _ => fun
  | [d1, d2] => { results := [.lit (.bool false)], args := [d1, d2] }
  | _ => none }
def FnExactFreeWindowsWrongFalsely : Prop := fnExactFreeWindowsRow.holds Try.pinned (OpenSpec.ofChange fnExactFreeWindowsWrong)

/-- 'laws.FnExactFirstSchedule': WHATEVER THE INPUT: true; the input reads as it did. -/
def fnExactFirstScheduleSpec : ChangeSpec := { name := "fnExactFirstSchedule", fn := fun _ => fun
  | [d1, d2] => { results := [.lit (.bool true)], args := [d1, d2] }
  | _ => none }
def fnExactFirstScheduleRow : OpenClaim := { program := "ytegokhpbjhanbaa", sum := "9d6d0c8194d7f5529e2c179f0f424e16478de92e2f219c40396fadea82967c82", func := "loop.example/g00939/laws.FnExactFirstSchedule", spec := "fnExactFirstSchedule", apart := false }
def FnExactFirstScheduleSaid : Prop := fnExactFirstScheduleRow.holds Try.pinned (OpenSpec.ofChange fnExactFirstScheduleSpec)

/-- ITS FALSE NEIGHBOUR: 'it returns false'. Refute it at one input. -/
def fnExactFirstScheduleWrong : ChangeSpec := { name := "fnExactFirstSchedule", fn := fun _ => fun
  | [d1, d2] => { results := [.lit (.bool false)], args := [d1, d2] }
  | _ => none }
def FnExactFirstScheduleWrongFalsely : Prop := fnExactFirstScheduleRow.holds Try.pinned (OpenSpec.ofChange fnExactFirstScheduleWrong)

/-- 'laws.FnExactBestOrder': WHATEVER THE INPUT: true; the input reads as it did. -/
def fnExactBestOrderSpec : ChangeSpec := { name := "fnExactBestOrder", fn := fun _ => fun
  | [d1, d2] => { results := [.lit (.bool true)], args := [d1, d2] }
  | _ => none }
def fnExactBestOrderRow : OpenClaim := { program := "ytegokhpbjhanbaa", sum := "9d6d0c8194d7f5529e2c179f0f424e16478de92e2f219c40396fadea82967c82", func := "loop.example/g00939/laws.FnExactBestOrder", spec := "fnExactBestOrder", recurses := true, apart := false }
def FnExactBestOrderSaid : Prop := fnExactBestOrderRow.holds Try.pinned (OpenSpec.ofChange fnExactBestOrderSpec)

/-- ITS FALSE NEIGHBOUR: 'it returns false'. Refute it at one input. -/
def fnExactBestOrderWrong : ChangeSpec := { name := "fnExactBestOrder", fn := fun _ => fun
  | [d1, d2] => { results := [.lit (.bool false)], args := [d1, d2] }
  | _ => none }
def FnExactBestOrderWrongFalsely : Prop := fnExactBestOrderRow.holds Try.pinned (OpenSpec.ofChange fnExactBestOrderWrong)

/-- 'laws.FnWindows': WHATEVER THE INPUT: true; the input reads as it did. -/
def fnWindowsSpec : ChangeSpec := { name := "fnWindows", fn := fun _ => fun
  | [d1, d2] => { results := [.lit (.bool true)], args := [d1, d2] }
  | _ => none }
def fnWindowsRow : OpenClaim := { program := "ytegokhpbjhanbaa", sum := "9d6d0c8194d7f5529e2c179f0f424e16478de92e2f219c40396fadea82967c82", func := "loop.example/g00939/laws.FnWindows", spec := "fnWindows", apart := false }
def FnWindowsSaid : Prop := fnWindowsRow.holds Try.pinned (OpenSpec.ofChange fnWindowsSpec)

/-- ITS FALSE NEIGHBOUR: 'it returns false'. Refute it at one input. -/
def fnWindowsWrong : ChangeSpec := { name := "fnWindows", fn := fun _ => fun
  | [d1, d2] => { results := [.lit (.bool false)], args := [d1, d2] }
  | _ => none }
def FnWindowsWrongFalsely : Prop := fnWindowsRow.holds Try.pinned (OpenSpec.ofChange fnWindowsWrong)

/- THE SECOND FORM. 'bulk': how many values and letters a reading holds, each counted each time it is reached (what is shared counts as often as it is met; a slice's spare places count too). A statement '..UptoSaid' is the law's where the arguments, and the package variables that the reading takes, are together of bulk at most 1048576: NARROWER than '..Said'. Prove '..Said' where nothing that the law and all that it calls make is longer than what came in: it says more and counts as full. Else prove '..UptoSaid'. A law counts once. -/
mutual
def uptoBulk {H : Type} : DataW H → Nat
  | .lit (.string bytes) => bytes.length + 1
  | .lit _ => 1
  | .nil => 1
  | .ptr d => uptoBulk d + 1
  | .slice elems spare => uptoBulkAll elems + uptoBulkAll spare + 1
  | .agg parts => uptoBulkAll parts + 1
  | .iface _ d => uptoBulk d + 1
  | .map entries => uptoBulkEntries entries + 1
  | .held _ => 1
def uptoBulkAll {H : Type} : List (DataW H) → Nat
  | [] => 0
  | d :: r => uptoBulk d + uptoBulkAll r
def uptoBulkEntries {H : Type} : List (Lit × DataW H) → Nat
  | [] => 0
  | x :: r => uptoBulkEntry x + uptoBulkEntries r
def uptoBulkEntry {H : Type} : Lit × DataW H → Nat
  | (.string bytes, d) => bytes.length + uptoBulk d + 1
  | (_, d) => uptoBulk d + 1
 end
def uptoSmall : (H : Type) → List (DataW H) → Bool := fun _ ds => decide (uptoBulkAll ds ≤ 1048576)
def OpenSpec.upto (s : _root_.Go.ChangeSpec) : _root_.Go.OpenSpec := { _root_.Go.OpenSpec.ofChange s with cond := some uptoSmall }

/-- 'laws.FnExactAddWindow', WHERE WHAT IT READS IS OF BULK AT MOST 1048576: true; the input reads as it did. -/
def fnExactAddWindowUptoRow : OpenClaim := { program := "ytegokhpbjhanbaa", sum := "9d6d0c8194d7f5529e2c179f0f424e16478de92e2f219c40396fadea82967c82", func := "loop.example/g00939/laws.FnExactAddWindow", spec := "fnExactAddWindow", apart := false, narrowed := true }
def FnExactAddWindowUptoSaid : Prop := fnExactAddWindowUptoRow.holds Try.pinned (OpenSpec.upto fnExactAddWindowSpec)

/-- 'laws.FnExactCloseHours', WHERE WHAT IT READS IS OF BULK AT MOST 1048576: true; the input reads as it did. -/
def fnExactCloseHoursUptoRow : OpenClaim := { program := "ytegokhpbjhanbaa", sum := "9d6d0c8194d7f5529e2c179f0f424e16478de92e2f219c40396fadea82967c82", func := "loop.example/g00939/laws.FnExactCloseHours", spec := "fnExactCloseHours", apart := false, narrowed := true }
def FnExactCloseHoursUptoSaid : Prop := fnExactCloseHoursUptoRow.holds Try.pinned (OpenSpec.upto fnExactCloseHoursSpec)

/-- 'laws.FnExactCommonWindows', WHERE WHAT IT READS IS OF BULK AT MOST 1048576: true; the input reads as it did. -/
def fnExactCommonWindowsUptoRow : OpenClaim := { program := "ytegokhpbjhanbaa", sum := "9d6d0c8194d7f5529e2c179f0f424e16478de92e2f219c40396fadea82967c82", func := "loop.example/g00939/laws.FnExactCommonWindows", spec := "fnExactCommonWindows", apart := false, narrowed := true }
def FnExactCommonWindowsUptoSaid : Prop := fnExactCommonWindowsUptoRow.holds Try.pinned (OpenSpec.upto fnExactCommonWindowsSpec)

/-- 'laws.FnExactFreeWindows', WHERE WHAT IT READS IS OF BULK AT MOST 1048576: true; the input reads as it did. -/
def fnExactFreeWindowsUptoRow : OpenClaim := { program := "ytegokhpbjhanbaa", sum := "9d6d0c8194d7f5529e2c179f0f424e16478de92e2f219c40396fadea82967c82", func := "loop.example/g00939/laws.FnExactFreeWindows", spec := "fnExactFreeWindows", apart := false, narrowed := true }
def FnExactFreeWindowsUptoSaid : Prop := fnExactFreeWindowsUptoRow.holds Try.pinned (OpenSpec.upto fnExactFreeWindowsSpec)

/-- 'laws.FnExactFirstSchedule', WHERE WHAT IT READS IS OF BULK AT MOST 1048576: true; the input reads as it did. -/
def fnExactFirstScheduleUptoRow : OpenClaim := { program := "ytegokhpbjhanbaa", sum := "9d6d0c8194d7f5529e2c179f0f424e16478de92e2f219c40396fadea82967c82", func := "loop.example/g00939/laws.FnExactFirstSchedule", spec := "fnExactFirstSchedule", apart := false, narrowed := true }
def FnExactFirstScheduleUptoSaid : Prop := fnExactFirstScheduleUptoRow.holds Try.pinned (OpenSpec.upto fnExactFirstScheduleSpec)

/-- 'laws.FnExactBestOrder', WHERE WHAT IT READS IS OF BULK AT MOST 1048576: true; the input reads as it did. -/
def fnExactBestOrderUptoRow : OpenClaim := { program := "ytegokhpbjhanbaa", sum := "9d6d0c8194d7f5529e2c179f0f424e16478de92e2f219c40396fadea82967c82", func := "loop.example/g00939/laws.FnExactBestOrder", spec := "fnExactBestOrder", recurses := true, apart := false, narrowed := true }
def FnExactBestOrderUptoSaid : Prop := fnExactBestOrderUptoRow.holds Try.pinned (OpenSpec.upto fnExactBestOrderSpec)

/-- 'laws.FnWindows', WHERE WHAT IT READS IS OF BULK AT MOST 1048576: true; the input reads as it did. -/
def fnWindowsUptoRow : OpenClaim := { program := "ytegokhpbjhanbaa", sum := "9d6d0c8194d7f5529e2c179f0f424e16478de92e2f219c40396fadea82967c82", func := "loop.example/g00939/laws.FnWindows", spec := "fnWindows", apart := false, narrowed := true }
def FnWindowsUptoSaid : Prop := fnWindowsUptoRow.holds Try.pinned (OpenSpec.upto fnWindowsSpec)

end Rows
end Go.Proofs.Ytegokhpbjhanbaa
