/-
  No cell of these rows narrows 'for every input' (looked for: loops, veiled, ifaces, maps, wideKeys, modest, calm, conditions, laid).
  DERIVED. THE GIVEN ROWS OF THIS SEAT. 13 by the template 'for every input the law returns true; each argument reads behind the call as it read before'; 0 by the template 'total and deterministic' (their statements: YtigimjcngmcniaaTotals.lean).
  GIVEN WITH THE SEED: the statements are not yours to turn. If you find one false, say at which input.
  Laid BY PROGRAM, IN A SANDBOX (cutbox-rows.mjs): the forced cells as the released guide's own fill.sh prints them over the translation 625cf15838b2a2f6… (all of the seat's roots in one cut). By AI agents, Wed Nov 11 2026. No macro, syntax, notation, axiom, sorry.
-/
import Derived.Test.YtigimjcngmcniaaChecked
import GoSem.Claim
import GoSem.ClaimJoined
import GoSem.ClaimMapViews
import Derived.JoinedTies
import Derived.KernelRfl
namespace Go.Proofs.Ytigimjcngmcniaa
/- THE CELL 'sum', in the pinned program and in every row, IS THE sha256 OF THE DUMP (.gsa) THAT YtigimjcngmcniaaProg.lean LOADS. Nothing in Lean hashes anything: it is a label: what it is worth is what the hold of that sum in a sandbox is worth. -/
noncomputable def Try.pinned : Pinned := { name := "ytigimjcngmcniaa", sum := "625cf15838b2a2f661fe3fdd825c8c9fd7ffb06757cfe29d159622cd69339224", checked := Try.checked }
namespace Rows
def none {H : Type} : Left H := { results := [], args := [] }

/-- 'laws.FnExactOpenPlaces': WHATEVER THE INPUT: true; the input reads as it did. -/
def fnExactOpenPlacesSpec : ChangeSpec := { name := "fnExactOpenPlaces", fn := fun _ => fun
  | [d1, d2] => { results := [.lit (.bool true)], args := [d1, d2] }
  | _ => none }
def fnExactOpenPlacesRow : OpenClaim := { program := "ytigimjcngmcniaa", sum := "625cf15838b2a2f661fe3fdd825c8c9fd7ffb06757cfe29d159622cd69339224", func := "loop.example/g00939/laws.FnExactOpenPlaces", spec := "fnExactOpenPlaces", apart := false }
def FnExactOpenPlacesSaid : Prop := fnExactOpenPlacesRow.holds Try.pinned (OpenSpec.ofChange fnExactOpenPlacesSpec)

/-- ITS FALSE NEIGHBOUR: 'it returns false'. Refute it at one input. -/
def fnExactOpenPlacesWrong : ChangeSpec := { name := "fnExactOpenPlaces", fn := fun _ => fun
  | [d1, d2] => { results := [.lit (.bool false)], args := [d1, d2] }
  | _ => none }
def FnExactOpenPlacesWrongFalsely : Prop := fnExactOpenPlacesRow.holds Try.pinned (OpenSpec.ofChange fnExactOpenPlacesWrong)

/-- 'laws.FnExactAddWindow': WHATEVER THE INPUT: true; the input reads as it did. -/
def fnExactAddWindowSpec : ChangeSpec := { name := "fnExactAddWindow", fn := fun _ => fun
  | [d1, d2] => { results := [.lit (.bool true)], args := [d1, d2] }
  | _ => none }
def fnExactAddWindowRow : OpenClaim := { program := "ytigimjcngmcniaa", sum := "625cf15838b2a2f661fe3fdd825c8c9fd7ffb06757cfe29d159622cd69339224", func := "loop.example/g00939/laws.FnExactAddWindow", spec := "fnExactAddWindow", apart := false }
def FnExactAddWindowSaid : Prop := fnExactAddWindowRow.holds Try.pinned (OpenSpec.ofChange fnExactAddWindowSpec)

/-- ITS FALSE NEIGHBOUR: 'it returns false'. Refute it at one input. -/
def fnExactAddWindowWrong : ChangeSpec := { name := "fnExactAddWindow", fn := fun _ => fun
  | [d1, d2] => { results := [.lit (.bool false)], args := [d1, d2] }
  | _ => none }
def FnExactAddWindowWrongFalsely : Prop := fnExactAddWindowRow.holds Try.pinned (OpenSpec.ofChange fnExactAddWindowWrong)

/-- 'laws.FnExactCloseHours': WHATEVER THE INPUT: true; the input reads as it did. -/
def fnExactCloseHoursSpec : ChangeSpec := { name := "fnExactCloseHours", fn := fun _ => fun
  | [d1, d2, d3] => { results := [.lit (.bool true)], args := [d1, d2, d3] }
  | _ => none }
def fnExactCloseHoursRow : OpenClaim := { program := "ytigimjcngmcniaa", sum := "625cf15838b2a2f661fe3fdd825c8c9fd7ffb06757cfe29d159622cd69339224", func := "loop.example/g00939/laws.FnExactCloseHours", spec := "fnExactCloseHours", apart := false }
def FnExactCloseHoursSaid : Prop := fnExactCloseHoursRow.holds Try.pinned (OpenSpec.ofChange fnExactCloseHoursSpec)

/-- ITS FALSE NEIGHBOUR: 'it returns false'. Refute it at one input. -/
def fnExactCloseHoursWrong : ChangeSpec := { name := "fnExactCloseHours", fn := fun _ => fun
  | [d1, d2, d3] => { results := [.lit (.bool false)], args := [d1, d2, d3] }
  | _ => none }
def FnExactCloseHoursWrongFalsely : Prop := fnExactCloseHoursRow.holds Try.pinned (OpenSpec.ofChange fnExactCloseHoursWrong)

/-- 'laws.FnExactCommonWindows': WHATEVER THE INPUT: true; the input reads as it did. -/
def fnExactCommonWindowsSpec : ChangeSpec := { name := "fnExactCommonWindows", fn := fun _ => fun
  | [d1, d2] => { results := [.lit (.bool true)], args := [d1, d2] }
  | _ => none }
def fnExactCommonWindowsRow : OpenClaim := { program := "ytigimjcngmcniaa", sum := "625cf15838b2a2f661fe3fdd825c8c9fd7ffb06757cfe29d159622cd69339224", func := "loop.example/g00939/laws.FnExactCommonWindows", spec := "fnExactCommonWindows", apart := false }
def FnExactCommonWindowsSaid : Prop := fnExactCommonWindowsRow.holds Try.pinned (OpenSpec.ofChange fnExactCommonWindowsSpec)

/-- ITS FALSE NEIGHBOUR: 'it returns false'. Refute it at one input. -/
def fnExactCommonWindowsWrong : ChangeSpec := { name := "fnExactCommonWindows", fn := fun _ => fun
  | [d1, d2] => { results := [.lit (.bool false)], args := [d1, d2] }
  | _ => none }
def FnExactCommonWindowsWrongFalsely : Prop := fnExactCommonWindowsRow.holds Try.pinned (OpenSpec.ofChange fnExactCommonWindowsWrong)

/-- 'laws.FnExactAreRehearsals': WHATEVER THE INPUT: true; the input reads as it did. -/
def fnExactAreRehearsalsSpec : ChangeSpec := { name := "fnExactAreRehearsals", fn := fun _ => fun
  | [d] => { results := [.lit (.bool true)], args := [d] }
  | _ => none }
def fnExactAreRehearsalsRow : OpenClaim := { program := "ytigimjcngmcniaa", sum := "625cf15838b2a2f661fe3fdd825c8c9fd7ffb06757cfe29d159622cd69339224", func := "loop.example/g00939/laws.FnExactAreRehearsals", spec := "fnExactAreRehearsals", apart := false }
def FnExactAreRehearsalsSaid : Prop := fnExactAreRehearsalsRow.holds Try.pinned (OpenSpec.ofChange fnExactAreRehearsalsSpec)

/-- ITS FALSE NEIGHBOUR: 'it returns false'. Refute it at one input. -/
def fnExactAreRehearsalsWrong : ChangeSpec := { name := "fnExactAreRehearsals", fn := fun _ => fun
  | [d] => { results := [.lit (.bool false)], args := [d] }
  | _ => none }
def FnExactAreRehearsalsWrongFalsely : Prop := fnExactAreRehearsalsRow.holds Try.pinned (OpenSpec.ofChange fnExactAreRehearsalsWrong)

/-- 'laws.FnExactAreBooked': WHATEVER THE INPUT: true; the input reads as it did. -/
def fnExactAreBookedSpec : ChangeSpec := { name := "fnExactAreBooked", fn := fun _ => fun
  | [d] => { results := [.lit (.bool true)], args := [d] }
  | _ => none }
def fnExactAreBookedRow : OpenClaim := { program := "ytigimjcngmcniaa", sum := "625cf15838b2a2f661fe3fdd825c8c9fd7ffb06757cfe29d159622cd69339224", func := "loop.example/g00939/laws.FnExactAreBooked", spec := "fnExactAreBooked", apart := false }
def FnExactAreBookedSaid : Prop := fnExactAreBookedRow.holds Try.pinned (OpenSpec.ofChange fnExactAreBookedSpec)

/-- ITS FALSE NEIGHBOUR: 'it returns false'. Refute it at one input. -/
def fnExactAreBookedWrong : ChangeSpec := { name := "fnExactAreBooked", fn := fun _ => fun
  | [d] => { results := [.lit (.bool false)], args := [d] }
  | _ => none }
def FnExactAreBookedWrongFalsely : Prop := fnExactAreBookedRow.holds Try.pinned (OpenSpec.ofChange fnExactAreBookedWrong)

/-- 'laws.FnExactWhoRehearses': WHATEVER THE INPUT: true; the input reads as it did. -/
def fnExactWhoRehearsesSpec : ChangeSpec := { name := "fnExactWhoRehearses", fn := fun _ => fun
  | [d1, d2, d3] => { results := [.lit (.bool true)], args := [d1, d2, d3] }
  | _ => none }
def fnExactWhoRehearsesRow : OpenClaim := { program := "ytigimjcngmcniaa", sum := "625cf15838b2a2f661fe3fdd825c8c9fd7ffb06757cfe29d159622cd69339224", func := "loop.example/g00939/laws.FnExactWhoRehearses", spec := "fnExactWhoRehearses", apart := false }
def FnExactWhoRehearsesSaid : Prop := fnExactWhoRehearsesRow.holds Try.pinned (OpenSpec.ofChange fnExactWhoRehearsesSpec)

/-- ITS FALSE NEIGHBOUR: 'it returns false'. Refute it at one input. -/
def fnExactWhoRehearsesWrong : ChangeSpec := { name := "fnExactWhoRehearses", fn := fun _ => fun
  | [d1, d2, d3] => { results := [.lit (.bool false)], args := [d1, d2, d3] }
  | _ => none }
def FnExactWhoRehearsesWrongFalsely : Prop := fnExactWhoRehearsesRow.holds Try.pinned (OpenSpec.ofChange fnExactWhoRehearsesWrong)

/-- 'laws.FnExactSectionHours': WHATEVER THE INPUT: true; the input reads as it did. -/
def fnExactSectionHoursSpec : ChangeSpec := { name := "fnExactSectionHours", fn := fun _ => fun
  | [d1, d2] => { results := [.lit (.bool true)], args := [d1, d2] }
  | _ => none }
def fnExactSectionHoursRow : OpenClaim := { program := "ytigimjcngmcniaa", sum := "625cf15838b2a2f661fe3fdd825c8c9fd7ffb06757cfe29d159622cd69339224", func := "loop.example/g00939/laws.FnExactSectionHours", spec := "fnExactSectionHours", apart := false }
def FnExactSectionHoursSaid : Prop := fnExactSectionHoursRow.holds Try.pinned (OpenSpec.ofChange fnExactSectionHoursSpec)

/-- ITS FALSE NEIGHBOUR: 'it returns false'. Refute it at one input. -/
def fnExactSectionHoursWrong : ChangeSpec := { name := "fnExactSectionHours", fn := fun _ => fun
  | [d1, d2] => { results := [.lit (.bool false)], args := [d1, d2] }
  | _ => none }
def FnExactSectionHoursWrongFalsely : Prop := fnExactSectionHoursRow.holds Try.pinned (OpenSpec.ofChange fnExactSectionHoursWrong)

/-- 'laws.FnExactScheduleEnd': WHATEVER THE INPUT: true; the input reads as it did. -/
def fnExactScheduleEndSpec : ChangeSpec := { name := "fnExactScheduleEnd", fn := fun _ => fun
  | [d] => { results := [.lit (.bool true)], args := [d] }
  | _ => none }
def fnExactScheduleEndRow : OpenClaim := { program := "ytigimjcngmcniaa", sum := "625cf15838b2a2f661fe3fdd825c8c9fd7ffb06757cfe29d159622cd69339224", func := "loop.example/g00939/laws.FnExactScheduleEnd", spec := "fnExactScheduleEnd", apart := false }
def FnExactScheduleEndSaid : Prop := fnExactScheduleEndRow.holds Try.pinned (OpenSpec.ofChange fnExactScheduleEndSpec)

/-- ITS FALSE NEIGHBOUR: 'it returns false'. Refute it at one input. -/
def fnExactScheduleEndWrong : ChangeSpec := { name := "fnExactScheduleEnd", fn := fun _ => fun
  | [d] => { results := [.lit (.bool false)], args := [d] }
  | _ => none }
def FnExactScheduleEndWrongFalsely : Prop := fnExactScheduleEndRow.holds Try.pinned (OpenSpec.ofChange fnExactScheduleEndWrong)

/-- 'laws.FnExactIsSchedule': WHATEVER THE INPUT: true; the input reads as it did. -/
def fnExactIsScheduleSpec : ChangeSpec := { name := "fnExactIsSchedule", fn := fun _ => fun
  | [d1, d2, d3] => { results := [.lit (.bool true)], args := [d1, d2, d3] }
  | _ => none }
def fnExactIsScheduleRow : OpenClaim := { program := "ytigimjcngmcniaa", sum := "625cf15838b2a2f661fe3fdd825c8c9fd7ffb06757cfe29d159622cd69339224", func := "loop.example/g00939/laws.FnExactIsSchedule", spec := "fnExactIsSchedule", apart := false }
def FnExactIsScheduleSaid : Prop := fnExactIsScheduleRow.holds Try.pinned (OpenSpec.ofChange fnExactIsScheduleSpec)

/-- ITS FALSE NEIGHBOUR: 'it returns false'. Refute it at one input. -/
def fnExactIsScheduleWrong : ChangeSpec := { name := "fnExactIsSchedule", fn := fun _ => fun
  | [d1, d2, d3] => { results := [.lit (.bool false)], args := [d1, d2, d3] }
  | _ => none }
def FnExactIsScheduleWrongFalsely : Prop := fnExactIsScheduleRow.holds Try.pinned (OpenSpec.ofChange fnExactIsScheduleWrong)

/-- 'laws.FnExactFreeWindows': WHATEVER THE INPUT: true; the input reads as it did. -/
def fnExactFreeWindowsSpec : ChangeSpec := { name := "fnExactFreeWindows", fn := fun _ => fun
  | [d1, d2] => { results := [.lit (.bool true)], args := [d1, d2] }
  | _ => none }
def fnExactFreeWindowsRow : OpenClaim := { program := "ytigimjcngmcniaa", sum := "625cf15838b2a2f661fe3fdd825c8c9fd7ffb06757cfe29d159622cd69339224", func := "loop.example/g00939/laws.FnExactFreeWindows", spec := "fnExactFreeWindows", apart := false }
def FnExactFreeWindowsSaid : Prop := fnExactFreeWindowsRow.holds Try.pinned (OpenSpec.ofChange fnExactFreeWindowsSpec)

/-- ITS FALSE NEIGHBOUR: 'it returns false'. Refute it at one input. -/
def fnExactFreeWindowsWrong : ChangeSpec := { name := "fnExactFreeWindows", fn := fun _ => fun
  | [d1, d2] => { results := [.lit (.bool false)], args := [d1, d2] }
  | _ => none }
def FnExactFreeWindowsWrongFalsely : Prop := fnExactFreeWindowsRow.holds Try.pinned (OpenSpec.ofChange fnExactFreeWindowsWrong)

/-- 'laws.FnExactFirstSchedule': WHATEVER THE INPUT: true; the input reads as it did. -/
def fnExactFirstScheduleSpec : ChangeSpec := { name := "fnExactFirstSchedule", fn := fun _ => fun
  | [d1, d2] => { results := [.lit (.bool true)], args := [d1, d2] }
  | _ => none }
def fnExactFirstScheduleRow : OpenClaim := { program := "ytigimjcngmcniaa", sum := "625cf15838b2a2f661fe3fdd825c8c9fd7ffb06757cfe29d159622cd69339224", func := "loop.example/g00939/laws.FnExactFirstSchedule", spec := "fnExactFirstSchedule", apart := false }
def FnExactFirstScheduleSaid : Prop := fnExactFirstScheduleRow.holds Try.pinned (OpenSpec.ofChange fnExactFirstScheduleSpec)

/-- ITS FALSE NEIGHBOUR: 'it returns false'. Refute it at one input. -/
def fnExactFirstScheduleWrong : ChangeSpec := { name := "fnExactFirstSchedule", fn := fun _ => fun
  | [d1, d2] => { results := [.lit (.bool false)], args := [d1, d2] }
  | _ => none }
def FnExactFirstScheduleWrongFalsely : Prop := fnExactFirstScheduleRow.holds Try.pinned (OpenSpec.ofChange fnExactFirstScheduleWrong)

/-- 'laws.FnExactBestOrder': WHATEVER THE INPUT: true; the input reads as it did. -/
def fnExactBestOrderSpec : ChangeSpec := { name := "fnExactBestOrder", fn := fun _ => fun
  | [d1, d2] => { results := [.lit (.bool true)], args := [d1, d2] }
  | _ => none }
def fnExactBestOrderRow : OpenClaim := { program := "ytigimjcngmcniaa", sum := "625cf15838b2a2f661fe3fdd825c8c9fd7ffb06757cfe29d159622cd69339224", func := "loop.example/g00939/laws.FnExactBestOrder", spec := "fnExactBestOrder", recurses := true, apart := false }
def FnExactBestOrderSaid : Prop := fnExactBestOrderRow.holds Try.pinned (OpenSpec.ofChange fnExactBestOrderSpec)

/-- ITS FALSE NEIGHBOUR: 'it returns false'. Refute it at one input. -/
def fnExactBestOrderWrong : ChangeSpec := { name := "fnExactBestOrder", fn := fun _ => fun
  | [d1, d2] => { results := [.lit (.bool false)], args := [d1, d2] }
  | _ => none }
def FnExactBestOrderWrongFalsely : Prop := fnExactBestOrderRow.holds Try.pinned (OpenSpec.ofChange fnExactBestOrderWrong)

/- THE SECOND FORM. 'bulk': how many values and letters a reading holds, each counted each time it is reached (what is shared counts as often as it is met; a slice's spare places count too). A statement '..UptoSaid' is the law's where the arguments, and the package variables that the reading takes, are together of bulk at most 1048576: NARROWER than '..Said'. Prove '..Said' where nothing that the law and all that it calls make is longer than what came in: it says more and counts as full. Else prove '..UptoSaid'. A law counts once. -/
mutual
def uptoBulk {H : Type} : DataW H → Nat
  | .lit (.string bytes) => bytes.length + 1
  | .lit _ => 1
  | .nil => 1
  | .ptr d => uptoBulk d + 1
  | .slice elems spare => uptoBulkAll elems + uptoBulkAll spare + 1
  | .agg parts => uptoBulkAll parts + 1
  | .iface _ d => uptoBulk d + 1
  | .map entries => uptoBulkEntries entries + 1
  | .held _ => 1
def uptoBulkAll {H : Type} : List (DataW H) → Nat
  | [] => 0
  | d :: r => uptoBulk d + uptoBulkAll r
def uptoBulkEntries {H : Type} : List (Lit × DataW H) → Nat
  | [] => 0
  | x :: r => uptoBulkEntry x + uptoBulkEntries r
def uptoBulkEntry {H : Type} : Lit × DataW H → Nat
  | (.string bytes, d) => bytes.length + uptoBulk d + 1
  | (_, d) => uptoBulk d + 1
 end
def uptoSmall : (H : Type) → List (DataW H) → Bool := fun _ ds => decide (uptoBulkAll ds ≤ 1048576)
def OpenSpec.upto (s : _root_.Go.ChangeSpec) : _root_.Go.OpenSpec := { _root_.Go.OpenSpec.ofChange s with cond := some uptoSmall }

/-- 'laws.FnExactOpenPlaces', WHERE WHAT IT READS IS OF BULK AT MOST 1048576: true; the input reads as it did. -/
def fnExactOpenPlacesUptoRow : OpenClaim := { program := "ytigimjcngmcniaa", sum := "625cf15838b2a2f661fe3fdd825c8c9fd7ffb06757cfe29d159622cd69339224", func := "loop.example/g00939/laws.FnExactOpenPlaces", spec := "fnExactOpenPlaces", apart := false, narrowed := true }
def FnExactOpenPlacesUptoSaid : Prop := fnExactOpenPlacesUptoRow.holds Try.pinned (OpenSpec.upto fnExactOpenPlacesSpec)

/-- 'laws.FnExactAddWindow', WHERE WHAT IT READS IS OF BULK AT MOST 1048576: true; the input reads as it did. -/
def fnExactAddWindowUptoRow : OpenClaim := { program := "ytigimjcngmcniaa", sum := "625cf15838b2a2f661fe3fdd825c8c9fd7ffb06757cfe29d159622cd69339224", func := "loop.example/g00939/laws.FnExactAddWindow", spec := "fnExactAddWindow", apart := false, narrowed := true }
def FnExactAddWindowUptoSaid : Prop := fnExactAddWindowUptoRow.holds Try.pinned (OpenSpec.upto fnExactAddWindowSpec)

/-- 'laws.FnExactCloseHours', WHERE WHAT IT READS IS OF BULK AT MOST 1048576: true; the input reads as it did. -/
def fnExactCloseHoursUptoRow : OpenClaim := { program := "ytigimjcngmcniaa", sum := "625cf15838b2a2f661fe3fdd825c8c9fd7ffb06757cfe29d159622cd69339224", func := "loop.example/g00939/laws.FnExactCloseHours", spec := "fnExactCloseHours", apart := false, narrowed := true }
def FnExactCloseHoursUptoSaid : Prop := fnExactCloseHoursUptoRow.holds Try.pinned (OpenSpec.upto fnExactCloseHoursSpec)

/-- 'laws.FnExactCommonWindows', WHERE WHAT IT READS IS OF BULK AT MOST 1048576: true; the input reads as it did. -/
def fnExactCommonWindowsUptoRow : OpenClaim := { program := "ytigimjcngmcniaa", sum := "625cf15838b2a2f661fe3fdd825c8c9fd7ffb06757cfe29d159622cd69339224", func := "loop.example/g00939/laws.FnExactCommonWindows", spec := "fnExactCommonWindows", apart := false, narrowed := true }
def FnExactCommonWindowsUptoSaid : Prop := fnExactCommonWindowsUptoRow.holds Try.pinned (OpenSpec.upto fnExactCommonWindowsSpec)

/-- 'laws.FnExactAreRehearsals', WHERE WHAT IT READS IS OF BULK AT MOST 1048576: true; the input reads as it did. -/
def fnExactAreRehearsalsUptoRow : OpenClaim := { program := "ytigimjcngmcniaa", sum := "625cf15838b2a2f661fe3fdd825c8c9fd7ffb06757cfe29d159622cd69339224", func := "loop.example/g00939/laws.FnExactAreRehearsals", spec := "fnExactAreRehearsals", apart := false, narrowed := true }
def FnExactAreRehearsalsUptoSaid : Prop := fnExactAreRehearsalsUptoRow.holds Try.pinned (OpenSpec.upto fnExactAreRehearsalsSpec)

/-- 'laws.FnExactAreBooked', WHERE WHAT IT READS IS OF BULK AT MOST 1048576: true; the input reads as it did. -/
def fnExactAreBookedUptoRow : OpenClaim := { program := "ytigimjcngmcniaa", sum := "625cf15838b2a2f661fe3fdd825c8c9fd7ffb06757cfe29d159622cd69339224", func := "loop.example/g00939/laws.FnExactAreBooked", spec := "fnExactAreBooked", apart := false, narrowed := true }
def FnExactAreBookedUptoSaid : Prop := fnExactAreBookedUptoRow.holds Try.pinned (OpenSpec.upto fnExactAreBookedSpec)

/-- 'laws.FnExactWhoRehearses', WHERE WHAT IT READS IS OF BULK AT MOST 1048576: true; the input reads as it did. -/
def fnExactWhoRehearsesUptoRow : OpenClaim := { program := "ytigimjcngmcniaa", sum := "625cf15838b2a2f661fe3fdd825c8c9fd7ffb06757cfe29d159622cd69339224", func := "loop.example/g00939/laws.FnExactWhoRehearses", spec := "fnExactWhoRehearses", apart := false, narrowed := true }
def FnExactWhoRehearsesUptoSaid : Prop := fnExactWhoRehearsesUptoRow.holds Try.pinned (OpenSpec.upto fnExactWhoRehearsesSpec)

/-- 'laws.FnExactSectionHours', WHERE WHAT IT READS IS OF BULK AT MOST 1048576: true; the input reads as it did. -/
def fnExactSectionHoursUptoRow : OpenClaim := { program := "ytigimjcngmcniaa", sum := "625cf15838b2a2f661fe3fdd825c8c9fd7ffb06757cfe29d159622cd69339224", func := "loop.example/g00939/laws.FnExactSectionHours", spec := "fnExactSectionHours", apart := false, narrowed := true }
def FnExactSectionHoursUptoSaid : Prop := fnExactSectionHoursUptoRow.holds Try.pinned (OpenSpec.upto fnExactSectionHoursSpec)

/-- 'laws.FnExactScheduleEnd', WHERE WHAT IT READS IS OF BULK AT MOST 1048576: true; the input reads as it did. -/
def fnExactScheduleEndUptoRow : OpenClaim := { program := "ytigimjcngmcniaa", sum := "625cf15838b2a2f661fe3fdd825c8c9fd7ffb06757cfe29d159622cd69339224", func := "loop.example/g00939/laws.FnExactScheduleEnd", spec := "fnExactScheduleEnd", apart := false, narrowed := true }
def FnExactScheduleEndUptoSaid : Prop := fnExactScheduleEndUptoRow.holds Try.pinned (OpenSpec.upto fnExactScheduleEndSpec)

/-- 'laws.FnExactIsSchedule', WHERE WHAT IT READS IS OF BULK AT MOST 1048576: true; the input reads as it did. -/
def fnExactIsScheduleUptoRow : OpenClaim := { program := "ytigimjcngmcniaa", sum := "625cf15838b2a2f661fe3fdd825c8c9fd7ffb06757cfe29d159622cd69339224", func := "loop.example/g00939/laws.FnExactIsSchedule", spec := "fnExactIsSchedule", apart := false, narrowed := true }
def FnExactIsScheduleUptoSaid : Prop := fnExactIsScheduleUptoRow.holds Try.pinned (OpenSpec.upto fnExactIsScheduleSpec)

/-- 'laws.FnExactFreeWindows', WHERE WHAT IT READS IS OF BULK AT MOST 1048576: true; the input reads as it did. -/
def fnExactFreeWindowsUptoRow : OpenClaim := { program := "ytigimjcngmcniaa", sum := "625cf15838b2a2f661fe3fdd825c8c9fd7ffb06757cfe29d159622cd69339224", func := "loop.example/g00939/laws.FnExactFreeWindows", spec := "fnExactFreeWindows", apart := false, narrowed := true }
def FnExactFreeWindowsUptoSaid : Prop := fnExactFreeWindowsUptoRow.holds Try.pinned (OpenSpec.upto fnExactFreeWindowsSpec)

/-- 'laws.FnExactFirstSchedule', WHERE WHAT IT READS IS OF BULK AT MOST 1048576: true; the input reads as it did. -/
def fnExactFirstScheduleUptoRow : OpenClaim := { program := "ytigimjcngmcniaa", sum := "625cf15838b2a2f661fe3fdd825c8c9fd7ffb06757cfe29d159622cd69339224", func := "loop.example/g00939/laws.FnExactFirstSchedule", spec := "fnExactFirstSchedule", apart := false, narrowed := true }
def FnExactFirstScheduleUptoSaid : Prop := fnExactFirstScheduleUptoRow.holds Try.pinned (OpenSpec.upto fnExactFirstScheduleSpec)

/-- 'laws.FnExactBestOrder', WHERE WHAT IT READS IS OF BULK AT MOST 1048576: true; the input reads as it did. -/
def fnExactBestOrderUptoRow : OpenClaim := { program := "ytigimjcngmcniaa", sum := "625cf15838b2a2f661fe3fdd825c8c9fd7ffb06757cfe29d159622cd69339224", func := "loop.example/g00939/laws.FnExactBestOrder", spec := "fnExactBestOrder", recurses := true, apart := false, narrowed := true }
def FnExactBestOrderUptoSaid : Prop := fnExactBestOrderUptoRow.holds Try.pinned (OpenSpec.upto fnExactBestOrderSpec)

end Rows
end Go.Proofs.Ytigimjcngmcniaa
