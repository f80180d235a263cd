/-
  No cell of these rows narrows 'for every input' (looked for: loops, veiled, ifaces, maps, wideKeys, modest, calm, conditions, laid).
  DERIVED. THE GIVEN ROWS OF THIS SEAT. 12 by the template 'for every input the law returns true; each argument reads behind the call as it read before'; 0 by the template 'total and deterministic' (their statements: YtcplnmanockhoaaTotals.lean).
  GIVEN WITH THE SEED: the statements are not yours to turn. If you find one false, say at which input.
  Laid BY PROGRAM, IN A SANDBOX (cutbox-rows.mjs): the forced cells as the released guide's own fill.sh prints them over the translation 32d2b6c3749706d7… (all of the seat's roots in one cut). By AI agents, Wed Nov 11 2026. No macro, syntax, notation, axiom, sorry.
-/
import Derived.Test.YtcplnmanockhoaaChecked
import GoSem.Claim
import GoSem.ClaimJoined
import GoSem.ClaimMapViews
import Derived.JoinedTies
import Derived.KernelRfl
namespace Go.Proofs.Ytcplnmanockhoaa
/- THE CELL 'sum', in the pinned program and in every row, IS THE sha256 OF THE DUMP (.gsa) THAT YtcplnmanockhoaaProg.lean LOADS. Nothing in Lean hashes anything: it is a label: what it is worth is what the hold of that sum in a sandbox is worth. -/
noncomputable def Try.pinned : Pinned := { name := "ytcplnmanockhoaa", sum := "32d2b6c3749706d7fc9f0d930f46ad0f8f8712153fed1d857328395f924306b3", checked := Try.checked }
namespace Rows
def none {H : Type} : Left H := { results := [], args := [] }

/-- 'laws.FnExactIsPace': WHATEVER THE INPUT: true; the input reads as it did. -/
def fnExactIsPaceSpec : ChangeSpec := { name := "fnExactIsPace", fn := fun _ => fun
  | [d] => { results := [.lit (.bool true)], args := [d] }
  | _ => none }
def fnExactIsPaceRow : OpenClaim := { program := "ytcplnmanockhoaa", sum := "32d2b6c3749706d7fc9f0d930f46ad0f8f8712153fed1d857328395f924306b3", func := "loop.example/g00939/laws.FnExactIsPace", spec := "fnExactIsPace", apart := false }
def FnExactIsPaceSaid : Prop := fnExactIsPaceRow.holds Try.pinned (OpenSpec.ofChange fnExactIsPaceSpec)

/-- ITS FALSE NEIGHBOUR: 'it returns false'. Refute it at one input. -/
def fnExactIsPaceWrong : ChangeSpec := { name := "fnExactIsPace", fn := fun _ => fun
  | [d] => { results := [.lit (.bool false)], args := [d] }
  | _ => none }
def FnExactIsPaceWrongFalsely : Prop := fnExactIsPaceRow.holds Try.pinned (OpenSpec.ofChange fnExactIsPaceWrong)

/-- 'laws.FnExactMostTempo': WHATEVER THE INPUT: true; the input reads as it did. -/
def fnExactMostTempoSpec : ChangeSpec := { name := "fnExactMostTempo", fn := fun _ => fun
  | [d1, d2] => { results := [.lit (.bool true)], args := [d1, d2] }
  | _ => none }
def fnExactMostTempoRow : OpenClaim := { program := "ytcplnmanockhoaa", sum := "32d2b6c3749706d7fc9f0d930f46ad0f8f8712153fed1d857328395f924306b3", func := "loop.example/g00939/laws.FnExactMostTempo", spec := "fnExactMostTempo", apart := false }
def FnExactMostTempoSaid : Prop := fnExactMostTempoRow.holds Try.pinned (OpenSpec.ofChange fnExactMostTempoSpec)

/-- ITS FALSE NEIGHBOUR: 'it returns false'. Refute it at one input. -/
def fnExactMostTempoWrong : ChangeSpec := { name := "fnExactMostTempo", fn := fun _ => fun
  | [d1, d2] => { results := [.lit (.bool false)], args := [d1, d2] }
  | _ => none }
def FnExactMostTempoWrongFalsely : Prop := fnExactMostTempoRow.holds Try.pinned (OpenSpec.ofChange fnExactMostTempoWrong)

/-- 'laws.FnExactMostStep': WHATEVER THE INPUT: true; the input reads as it did. -/
def fnExactMostStepSpec : ChangeSpec := { name := "fnExactMostStep", fn := fun _ => fun
  | [d1, d2] => { results := [.lit (.bool true)], args := [d1, d2] }
  | _ => none }
def fnExactMostStepRow : OpenClaim := { program := "ytcplnmanockhoaa", sum := "32d2b6c3749706d7fc9f0d930f46ad0f8f8712153fed1d857328395f924306b3", func := "loop.example/g00939/laws.FnExactMostStep", spec := "fnExactMostStep", apart := false }
def FnExactMostStepSaid : Prop := fnExactMostStepRow.holds Try.pinned (OpenSpec.ofChange fnExactMostStepSpec)

/-- ITS FALSE NEIGHBOUR: 'it returns false'. Refute it at one input. -/
def fnExactMostStepWrong : ChangeSpec := { name := "fnExactMostStep", fn := fun _ => fun
  | [d1, d2] => { results := [.lit (.bool false)], args := [d1, d2] }
  | _ => none }
def FnExactMostStepWrongFalsely : Prop := fnExactMostStepRow.holds Try.pinned (OpenSpec.ofChange fnExactMostStepWrong)

/-- 'laws.FnExactCompareSpeeds': WHATEVER THE INPUT: true; the input reads as it did. -/
def fnExactCompareSpeedsSpec : ChangeSpec := { name := "fnExactCompareSpeeds", fn := fun _ => fun
  | [d1, d2] => { results := [.lit (.bool true)], args := [d1, d2] }
  | _ => none }
def fnExactCompareSpeedsRow : OpenClaim := { program := "ytcplnmanockhoaa", sum := "32d2b6c3749706d7fc9f0d930f46ad0f8f8712153fed1d857328395f924306b3", func := "loop.example/g00939/laws.FnExactCompareSpeeds", spec := "fnExactCompareSpeeds", apart := false }
def FnExactCompareSpeedsSaid : Prop := fnExactCompareSpeedsRow.holds Try.pinned (OpenSpec.ofChange fnExactCompareSpeedsSpec)

/-- ITS FALSE NEIGHBOUR: 'it returns false'. Refute it at one input. -/
def fnExactCompareSpeedsWrong : ChangeSpec := { name := "fnExactCompareSpeeds", fn := fun _ => fun
  | [d1, d2] => { results := [.lit (.bool false)], args := [d1, d2] }
  | _ => none }
def FnExactCompareSpeedsWrongFalsely : Prop := fnExactCompareSpeedsRow.holds Try.pinned (OpenSpec.ofChange fnExactCompareSpeedsWrong)

/-- 'laws.FnExactSpeedOf': WHATEVER THE INPUT: true; the input reads as it did. -/
def fnExactSpeedOfSpec : ChangeSpec := { name := "fnExactSpeedOf", fn := fun _ => fun
  | [d] => { results := [.lit (.bool true)], args := [d] }
  | _ => none }
def fnExactSpeedOfRow : OpenClaim := { program := "ytcplnmanockhoaa", sum := "32d2b6c3749706d7fc9f0d930f46ad0f8f8712153fed1d857328395f924306b3", func := "loop.example/g00939/laws.FnExactSpeedOf", spec := "fnExactSpeedOf", apart := false }
def FnExactSpeedOfSaid : Prop := fnExactSpeedOfRow.holds Try.pinned (OpenSpec.ofChange fnExactSpeedOfSpec)

/-- ITS FALSE NEIGHBOUR: 'it returns false'. Refute it at one input. -/
def fnExactSpeedOfWrong : ChangeSpec := { name := "fnExactSpeedOf", fn := fun _ => fun
  | [d] => { results := [.lit (.bool false)], args := [d] }
  | _ => none }
def FnExactSpeedOfWrongFalsely : Prop := fnExactSpeedOfRow.holds Try.pinned (OpenSpec.ofChange fnExactSpeedOfWrong)

/-- 'laws.FnExactCountsAt': WHATEVER THE INPUT: true; the input reads as it did. -/
def fnExactCountsAtSpec : ChangeSpec := { name := "fnExactCountsAt", fn := fun _ => fun
  | [d1, d2, d3, d4] => { results := [.lit (.bool true)], args := [d1, d2, d3, d4] }
  | _ => none }
def fnExactCountsAtRow : OpenClaim := { program := "ytcplnmanockhoaa", sum := "32d2b6c3749706d7fc9f0d930f46ad0f8f8712153fed1d857328395f924306b3", func := "loop.example/g00939/laws.FnExactCountsAt", spec := "fnExactCountsAt", apart := false }
def FnExactCountsAtSaid : Prop := fnExactCountsAtRow.holds Try.pinned (OpenSpec.ofChange fnExactCountsAtSpec)

/-- ITS FALSE NEIGHBOUR: 'it returns false'. Refute it at one input. -/
def fnExactCountsAtWrong : ChangeSpec := { name := "fnExactCountsAt", fn := fun _ => fun
  | [d1, d2, d3, d4] => { results := [.lit (.bool false)], args := [d1, d2, d3, d4] }
  | _ => none }
def FnExactCountsAtWrongFalsely : Prop := fnExactCountsAtRow.holds Try.pinned (OpenSpec.ofChange fnExactCountsAtWrong)

/-- 'laws.FnExactMoveSpeed': WHATEVER THE INPUT: true; the input reads as it did. -/
def fnExactMoveSpeedSpec : ChangeSpec := { name := "fnExactMoveSpeed", fn := fun _ => fun
  | [d1, d2] => { results := [.lit (.bool true)], args := [d1, d2] }
  | _ => none }
def fnExactMoveSpeedRow : OpenClaim := { program := "ytcplnmanockhoaa", sum := "32d2b6c3749706d7fc9f0d930f46ad0f8f8712153fed1d857328395f924306b3", func := "loop.example/g00939/laws.FnExactMoveSpeed", spec := "fnExactMoveSpeed", apart := false }
def FnExactMoveSpeedSaid : Prop := fnExactMoveSpeedRow.holds Try.pinned (OpenSpec.ofChange fnExactMoveSpeedSpec)

/-- ITS FALSE NEIGHBOUR: 'it returns false'. Refute it at one input. -/
def fnExactMoveSpeedWrong : ChangeSpec := { name := "fnExactMoveSpeed", fn := fun _ => fun
  | [d1, d2] => { results := [.lit (.bool false)], args := [d1, d2] }
  | _ => none }
def FnExactMoveSpeedWrongFalsely : Prop := fnExactMoveSpeedRow.holds Try.pinned (OpenSpec.ofChange fnExactMoveSpeedWrong)

/-- 'laws.FnExactPacesAt': WHATEVER THE INPUT: true; the input reads as it did. -/
def fnExactPacesAtSpec : ChangeSpec := { name := "fnExactPacesAt", fn := fun _ => fun
  | [d1, d2] => { results := [.lit (.bool true)], args := [d1, d2] }
  | _ => none }
def fnExactPacesAtRow : OpenClaim := { program := "ytcplnmanockhoaa", sum := "32d2b6c3749706d7fc9f0d930f46ad0f8f8712153fed1d857328395f924306b3", func := "loop.example/g00939/laws.FnExactPacesAt", spec := "fnExactPacesAt", apart := false }
def FnExactPacesAtSaid : Prop := fnExactPacesAtRow.holds Try.pinned (OpenSpec.ofChange fnExactPacesAtSpec)

/-- ITS FALSE NEIGHBOUR: 'it returns false'. Refute it at one input. -/
def fnExactPacesAtWrong : ChangeSpec := { name := "fnExactPacesAt", fn := fun _ => fun
  | [d1, d2] => { results := [.lit (.bool false)], args := [d1, d2] }
  | _ => none }
def FnExactPacesAtWrongFalsely : Prop := fnExactPacesAtRow.holds Try.pinned (OpenSpec.ofChange fnExactPacesAtWrong)

/-- 'laws.FnExactMoveLasts': WHATEVER THE INPUT: true; the input reads as it did. -/
def fnExactMoveLastsSpec : ChangeSpec := { name := "fnExactMoveLasts", fn := fun _ => fun
  | [d1, d2, d3] => { results := [.lit (.bool true)], args := [d1, d2, d3] }
  | _ => none }
def fnExactMoveLastsRow : OpenClaim := { program := "ytcplnmanockhoaa", sum := "32d2b6c3749706d7fc9f0d930f46ad0f8f8712153fed1d857328395f924306b3", func := "loop.example/g00939/laws.FnExactMoveLasts", spec := "fnExactMoveLasts", apart := false }
def FnExactMoveLastsSaid : Prop := fnExactMoveLastsRow.holds Try.pinned (OpenSpec.ofChange fnExactMoveLastsSpec)

/-- ITS FALSE NEIGHBOUR: 'it returns false'. Refute it at one input. -/
def fnExactMoveLastsWrong : ChangeSpec := { name := "fnExactMoveLasts", fn := fun _ => fun
  | [d1, d2, d3] => { results := [.lit (.bool false)], args := [d1, d2, d3] }
  | _ => none }
def FnExactMoveLastsWrongFalsely : Prop := fnExactMoveLastsRow.holds Try.pinned (OpenSpec.ofChange fnExactMoveLastsWrong)

/-- 'laws.FnPaces': WHATEVER THE INPUT: true; the input reads as it did. -/
def fnPacesSpec : ChangeSpec := { name := "fnPaces", fn := fun _ => fun
  | [d1, d2] => { results := [.lit (.bool true)], args := [d1, d2] }
  | _ => none }
def fnPacesRow : OpenClaim := { program := "ytcplnmanockhoaa", sum := "32d2b6c3749706d7fc9f0d930f46ad0f8f8712153fed1d857328395f924306b3", func := "loop.example/g00939/laws.FnPaces", spec := "fnPaces", apart := false }
def FnPacesSaid : Prop := fnPacesRow.holds Try.pinned (OpenSpec.ofChange fnPacesSpec)

/-- ITS FALSE NEIGHBOUR: 'it returns false'. Refute it at one input. -/
def fnPacesWrong : ChangeSpec := { name := "fnPaces", fn := fun _ => fun
  | [d1, d2] => { results := [.lit (.bool false)], args := [d1, d2] }
  | _ => none }
def FnPacesWrongFalsely : Prop := fnPacesRow.holds Try.pinned (OpenSpec.ofChange fnPacesWrong)

/-- 'laws.FnExactMovesTooFast': WHATEVER THE INPUT: true; the input reads as it did. -/
def fnExactMovesTooFastSpec : ChangeSpec := { name := "fnExactMovesTooFast", fn := fun _ => fun
  | [d1, d2, d3, d4] => { results := [.lit (.bool true)], args := [d1, d2, d3, d4] }
  | _ => none }
def fnExactMovesTooFastRow : OpenClaim := { program := "ytcplnmanockhoaa", sum := "32d2b6c3749706d7fc9f0d930f46ad0f8f8712153fed1d857328395f924306b3", func := "loop.example/g00939/laws.FnExactMovesTooFast", spec := "fnExactMovesTooFast", apart := false }
def FnExactMovesTooFastSaid : Prop := fnExactMovesTooFastRow.holds Try.pinned (OpenSpec.ofChange fnExactMovesTooFastSpec)

/-- ITS FALSE NEIGHBOUR: 'it returns false'. Refute it at one input. -/
def fnExactMovesTooFastWrong : ChangeSpec := { name := "fnExactMovesTooFast", fn := fun _ => fun
  | [d1, d2, d3, d4] => { results := [.lit (.bool false)], args := [d1, d2, d3, d4] }
  | _ => none }
def FnExactMovesTooFastWrongFalsely : Prop := fnExactMovesTooFastRow.holds Try.pinned (OpenSpec.ofChange fnExactMovesTooFastWrong)

/-- 'laws.FnSpeeds': WHATEVER THE INPUT: true; the input reads as it did. -/
def fnSpeedsSpec : ChangeSpec := { name := "fnSpeeds", fn := fun _ => fun
  | [d1, d2] => { results := [.lit (.bool true)], args := [d1, d2] }
  | _ => none }
def fnSpeedsRow : OpenClaim := { program := "ytcplnmanockhoaa", sum := "32d2b6c3749706d7fc9f0d930f46ad0f8f8712153fed1d857328395f924306b3", func := "loop.example/g00939/laws.FnSpeeds", spec := "fnSpeeds", apart := false }
def FnSpeedsSaid : Prop := fnSpeedsRow.holds Try.pinned (OpenSpec.ofChange fnSpeedsSpec)

/-- ITS FALSE NEIGHBOUR: 'it returns false'. Refute it at one input. -/
def fnSpeedsWrong : ChangeSpec := { name := "fnSpeeds", fn := fun _ => fun
  | [d1, d2] => { results := [.lit (.bool false)], args := [d1, d2] }
  | _ => none }
def FnSpeedsWrongFalsely : Prop := fnSpeedsRow.holds Try.pinned (OpenSpec.ofChange fnSpeedsWrong)

/- THE SECOND FORM. 'bulk': how many values and letters a reading holds, each counted each time it is reached (what is shared counts as often as it is met; a slice's spare places count too). A statement '..UptoSaid' is the law's where the arguments, and the package variables that the reading takes, are together of bulk at most 1048576: NARROWER than '..Said'. Prove '..Said' where nothing that the law and all that it calls make is longer than what came in: it says more and counts as full. Else prove '..UptoSaid'. A law counts once. -/
mutual
def uptoBulk {H : Type} : DataW H → Nat
  | .lit (.string bytes) => bytes.length + 1
  | .lit _ => 1
  | .nil => 1
  | .ptr d => uptoBulk d + 1
  | .slice elems spare => uptoBulkAll elems + uptoBulkAll spare + 1
  | .agg parts => uptoBulkAll parts + 1
  | .iface _ d => uptoBulk d + 1
  | .map entries => uptoBulkEntries entries + 1
  | .held _ => 1
def uptoBulkAll {H : Type} : List (DataW H) → Nat
  | [] => 0
  | d :: r => uptoBulk d + uptoBulkAll r
def uptoBulkEntries {H : Type} : List (Lit × DataW H) → Nat
  | [] => 0
  | x :: r => uptoBulkEntry x + uptoBulkEntries r
def uptoBulkEntry {H : Type} : Lit × DataW H → Nat
  | (.string bytes, d) => bytes.length + uptoBulk d + 1
  | (_, d) => uptoBulk d + 1
 end
def uptoSmall : (H : Type) → List (DataW H) → Bool := fun _ ds => decide (uptoBulkAll ds ≤ 1048576)
def OpenSpec.upto (s : _root_.Go.ChangeSpec) : _root_.Go.OpenSpec := { _root_.Go.OpenSpec.ofChange s with cond := some uptoSmall }

/-- 'laws.FnExactIsPace', WHERE WHAT IT READS IS OF BULK AT MOST 1048576: true; the input reads as it did. -/
def fnExactIsPaceUptoRow : OpenClaim := { program := "ytcplnmanockhoaa", sum := "32d2b6c3749706d7fc9f0d930f46ad0f8f8712153fed1d857328395f924306b3", func := "loop.example/g00939/laws.FnExactIsPace", spec := "fnExactIsPace", apart := false, narrowed := true }
def FnExactIsPaceUptoSaid : Prop := fnExactIsPaceUptoRow.holds Try.pinned (OpenSpec.upto fnExactIsPaceSpec)

/-- 'laws.FnExactMostTempo', WHERE WHAT IT READS IS OF BULK AT MOST 1048576: true; the input reads as it did. -/
def fnExactMostTempoUptoRow : OpenClaim := { program := "ytcplnmanockhoaa", sum := "32d2b6c3749706d7fc9f0d930f46ad0f8f8712153fed1d857328395f924306b3", func := "loop.example/g00939/laws.FnExactMostTempo", spec := "fnExactMostTempo", apart := false, narrowed := true }
def FnExactMostTempoUptoSaid : Prop := fnExactMostTempoUptoRow.holds Try.pinned (OpenSpec.upto fnExactMostTempoSpec)

/-- 'laws.FnExactMostStep', WHERE WHAT IT READS IS OF BULK AT MOST 1048576: true; the input reads as it did. -/
def fnExactMostStepUptoRow : OpenClaim := { program := "ytcplnmanockhoaa", sum := "32d2b6c3749706d7fc9f0d930f46ad0f8f8712153fed1d857328395f924306b3", func := "loop.example/g00939/laws.FnExactMostStep", spec := "fnExactMostStep", apart := false, narrowed := true }
def FnExactMostStepUptoSaid : Prop := fnExactMostStepUptoRow.holds Try.pinned (OpenSpec.upto fnExactMostStepSpec)

/-- 'laws.FnExactCompareSpeeds', WHERE WHAT IT READS IS OF BULK AT MOST 1048576: true; the input reads as it did. -/
def fnExactCompareSpeedsUptoRow : OpenClaim := { program := "ytcplnmanockhoaa", sum := "32d2b6c3749706d7fc9f0d930f46ad0f8f8712153fed1d857328395f924306b3", func := "loop.example/g00939/laws.FnExactCompareSpeeds", spec := "fnExactCompareSpeeds", apart := false, narrowed := true }
def FnExactCompareSpeedsUptoSaid : Prop := fnExactCompareSpeedsUptoRow.holds Try.pinned (OpenSpec.upto fnExactCompareSpeedsSpec)

/-- 'laws.FnExactSpeedOf', WHERE WHAT IT READS IS OF BULK AT MOST 1048576: true; the input reads as it did. -/
def fnExactSpeedOfUptoRow : OpenClaim := { program := "ytcplnmanockhoaa", sum := "32d2b6c3749706d7fc9f0d930f46ad0f8f8712153fed1d857328395f924306b3", func := "loop.example/g00939/laws.FnExactSpeedOf", spec := "fnExactSpeedOf", apart := false, narrowed := true }
def FnExactSpeedOfUptoSaid : Prop := fnExactSpeedOfUptoRow.holds Try.pinned (OpenSpec.upto fnExactSpeedOfSpec)

/-- 'laws.FnExactCountsAt', WHERE WHAT IT READS IS OF BULK AT MOST 1048576: true; the input reads as it did. -/
def fnExactCountsAtUptoRow : OpenClaim := { program := "ytcplnmanockhoaa", sum := "32d2b6c3749706d7fc9f0d930f46ad0f8f8712153fed1d857328395f924306b3", func := "loop.example/g00939/laws.FnExactCountsAt", spec := "fnExactCountsAt", apart := false, narrowed := true }
def FnExactCountsAtUptoSaid : Prop := fnExactCountsAtUptoRow.holds Try.pinned (OpenSpec.upto fnExactCountsAtSpec)

/-- 'laws.FnExactMoveSpeed', WHERE WHAT IT READS IS OF BULK AT MOST 1048576: true; the input reads as it did. -/
def fnExactMoveSpeedUptoRow : OpenClaim := { program := "ytcplnmanockhoaa", sum := "32d2b6c3749706d7fc9f0d930f46ad0f8f8712153fed1d857328395f924306b3", func := "loop.example/g00939/laws.FnExactMoveSpeed", spec := "fnExactMoveSpeed", apart := false, narrowed := true }
def FnExactMoveSpeedUptoSaid : Prop := fnExactMoveSpeedUptoRow.holds Try.pinned (OpenSpec.upto fnExactMoveSpeedSpec)

/-- 'laws.FnExactPacesAt', WHERE WHAT IT READS IS OF BULK AT MOST 1048576: true; the input reads as it did. -/
def fnExactPacesAtUptoRow : OpenClaim := { program := "ytcplnmanockhoaa", sum := "32d2b6c3749706d7fc9f0d930f46ad0f8f8712153fed1d857328395f924306b3", func := "loop.example/g00939/laws.FnExactPacesAt", spec := "fnExactPacesAt", apart := false, narrowed := true }
def FnExactPacesAtUptoSaid : Prop := fnExactPacesAtUptoRow.holds Try.pinned (OpenSpec.upto fnExactPacesAtSpec)

/-- 'laws.FnExactMoveLasts', WHERE WHAT IT READS IS OF BULK AT MOST 1048576: true; the input reads as it did. -/
def fnExactMoveLastsUptoRow : OpenClaim := { program := "ytcplnmanockhoaa", sum := "32d2b6c3749706d7fc9f0d930f46ad0f8f8712153fed1d857328395f924306b3", func := "loop.example/g00939/laws.FnExactMoveLasts", spec := "fnExactMoveLasts", apart := false, narrowed := true }
def FnExactMoveLastsUptoSaid : Prop := fnExactMoveLastsUptoRow.holds Try.pinned (OpenSpec.upto fnExactMoveLastsSpec)

/-- 'laws.FnPaces', WHERE WHAT IT READS IS OF BULK AT MOST 1048576: true; the input reads as it did. -/
def fnPacesUptoRow : OpenClaim := { program := "ytcplnmanockhoaa", sum := "32d2b6c3749706d7fc9f0d930f46ad0f8f8712153fed1d857328395f924306b3", func := "loop.example/g00939/laws.FnPaces", spec := "fnPaces", apart := false, narrowed := true }
def FnPacesUptoSaid : Prop := fnPacesUptoRow.holds Try.pinned (OpenSpec.upto fnPacesSpec)

/-- 'laws.FnExactMovesTooFast', WHERE WHAT IT READS IS OF BULK AT MOST 1048576: true; the input reads as it did. -/
def fnExactMovesTooFastUptoRow : OpenClaim := { program := "ytcplnmanockhoaa", sum := "32d2b6c3749706d7fc9f0d930f46ad0f8f8712153fed1d857328395f924306b3", func := "loop.example/g00939/laws.FnExactMovesTooFast", spec := "fnExactMovesTooFast", apart := false, narrowed := true }
def FnExactMovesTooFastUptoSaid : Prop := fnExactMovesTooFastUptoRow.holds Try.pinned (OpenSpec.upto fnExactMovesTooFastSpec)

/-- 'laws.FnSpeeds', WHERE WHAT IT READS IS OF BULK AT MOST 1048576: true; the input reads as it did. -/
def fnSpeedsUptoRow : OpenClaim := { program := "ytcplnmanockhoaa", sum := "32d2b6c3749706d7fc9f0d930f46ad0f8f8712153fed1d857328395f924306b3", func := "loop.example/g00939/laws.FnSpeeds", spec := "fnSpeeds", apart := false, narrowed := true }
def FnSpeedsUptoSaid : Prop := fnSpeedsUptoRow.holds Try.pinned (OpenSpec.upto fnSpeedsSpec)

end Rows
end Go.Proofs.Ytcplnmanockhoaa
