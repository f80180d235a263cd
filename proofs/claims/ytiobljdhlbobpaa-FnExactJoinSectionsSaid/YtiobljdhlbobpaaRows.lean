/-
  No cell of these rows narrows 'for every input' (looked for: loops, veiled, ifaces, maps, wideKeys, modest, calm, conditions, laid).
  DERIVED. THE GIVEN ROWS OF THIS SEAT. 10 by the template 'for every input the law returns true; each argument reads behind the call as it read before'; 0 by the template 'total and deterministic' (their statements: YtiobljdhlbobpaaTotals.lean).
  GIVEN WITH THE SEED: the statements are not yours to turn. If you find one false, say at which input.
  Laid BY PROGRAM, IN A SANDBOX (cutbox-rows.mjs): the forced cells as the released guide's own fill.sh prints them over the translation 18c590835349f8ac… (all of the seat's roots in one cut). By AI agents, Wed Nov 11 2026. No macro, syntax, notation, axiom, sorry.
-/
import Derived.Test.YtiobljdhlbobpaaChecked
import GoSem.Claim
import GoSem.ClaimJoined
import GoSem.ClaimMapViews
import Derived.JoinedTies
import Derived.KernelRfl
namespace Go.Proofs.Ytiobljdhlbobpaa
/- THE CELL 'sum', in the pinned program and in every row, IS THE sha256 OF THE DUMP (.gsa) THAT YtiobljdhlbobpaaProg.lean LOADS. Nothing in Lean hashes anything: it is a label: what it is worth is what the hold of that sum in a sandbox is worth. -/
noncomputable def Try.pinned : Pinned := { name := "ytiobljdhlbobpaa", sum := "18c590835349f8ac7c030db29c3f9f9e62c4b565ce4581ee1cc694e3de0659d8", checked := Try.checked }
namespace Rows
def none {H : Type} : Left H := { results := [], args := [] }

/-- 'laws.FnExactAreSections': WHATEVER THE INPUT: true; the input reads as it did. -/
def fnExactAreSectionsSpec : ChangeSpec := { name := "fnExactAreSections", fn := fun _ => fun
  | [d] => { results := [.lit (.bool true)], args := [d] }
  | _ => none }
def fnExactAreSectionsRow : OpenClaim := { program := "ytiobljdhlbobpaa", sum := "18c590835349f8ac7c030db29c3f9f9e62c4b565ce4581ee1cc694e3de0659d8", func := "loop.example/g00939/laws.FnExactAreSections", spec := "fnExactAreSections", apart := false }
def FnExactAreSectionsSaid : Prop := fnExactAreSectionsRow.holds Try.pinned (OpenSpec.ofChange fnExactAreSectionsSpec)

/-- ITS FALSE NEIGHBOUR: 'it returns false'. Refute it at one input. -/
def fnExactAreSectionsWrong : ChangeSpec := { name := "fnExactAreSections", fn := fun _ => fun
  | [d] => { results := [.lit (.bool false)], args := [d] }
  | _ => none }
def FnExactAreSectionsWrongFalsely : Prop := fnExactAreSectionsRow.holds Try.pinned (OpenSpec.ofChange fnExactAreSectionsWrong)

/-- 'laws.FnExactSectionOf': WHATEVER THE INPUT: true; the input reads as it did. -/
def fnExactSectionOfSpec : ChangeSpec := { name := "fnExactSectionOf", fn := fun _ => fun
  | [d1, d2] => { results := [.lit (.bool true)], args := [d1, d2] }
  | _ => none }
def fnExactSectionOfRow : OpenClaim := { program := "ytiobljdhlbobpaa", sum := "18c590835349f8ac7c030db29c3f9f9e62c4b565ce4581ee1cc694e3de0659d8", func := "loop.example/g00939/laws.FnExactSectionOf", spec := "fnExactSectionOf", apart := false }
def FnExactSectionOfSaid : Prop := fnExactSectionOfRow.holds Try.pinned (OpenSpec.ofChange fnExactSectionOfSpec)

/-- ITS FALSE NEIGHBOUR: 'it returns false'. Refute it at one input. -/
def fnExactSectionOfWrong : ChangeSpec := { name := "fnExactSectionOf", fn := fun _ => fun
  | [d1, d2] => { results := [.lit (.bool false)], args := [d1, d2] }
  | _ => none }
def FnExactSectionOfWrongFalsely : Prop := fnExactSectionOfRow.holds Try.pinned (OpenSpec.ofChange fnExactSectionOfWrong)

/-- 'laws.FnExactLoudestSection': WHATEVER THE INPUT: true; the input reads as it did. -/
def fnExactLoudestSectionSpec : ChangeSpec := { name := "fnExactLoudestSection", fn := fun _ => fun
  | [d] => { results := [.lit (.bool true)], args := [d] }
  | _ => none }
def fnExactLoudestSectionRow : OpenClaim := { program := "ytiobljdhlbobpaa", sum := "18c590835349f8ac7c030db29c3f9f9e62c4b565ce4581ee1cc694e3de0659d8", func := "loop.example/g00939/laws.FnExactLoudestSection", spec := "fnExactLoudestSection", apart := false }
def FnExactLoudestSectionSaid : Prop := fnExactLoudestSectionRow.holds Try.pinned (OpenSpec.ofChange fnExactLoudestSectionSpec)

/-- ITS FALSE NEIGHBOUR: 'it returns false'. Refute it at one input. -/
def fnExactLoudestSectionWrong : ChangeSpec := { name := "fnExactLoudestSection", fn := fun _ => fun
  | [d] => { results := [.lit (.bool false)], args := [d] }
  | _ => none }
def FnExactLoudestSectionWrongFalsely : Prop := fnExactLoudestSectionRow.holds Try.pinned (OpenSpec.ofChange fnExactLoudestSectionWrong)

/-- 'laws.FnExactLoudShare': WHATEVER THE INPUT: true; the input reads as it did. -/
def fnExactLoudShareSpec : ChangeSpec := { name := "fnExactLoudShare", fn := fun _ => fun
  | [d1, d2] => { results := [.lit (.bool true)], args := [d1, d2] }
  | _ => none }
def fnExactLoudShareRow : OpenClaim := { program := "ytiobljdhlbobpaa", sum := "18c590835349f8ac7c030db29c3f9f9e62c4b565ce4581ee1cc694e3de0659d8", func := "loop.example/g00939/laws.FnExactLoudShare", spec := "fnExactLoudShare", apart := false }
def FnExactLoudShareSaid : Prop := fnExactLoudShareRow.holds Try.pinned (OpenSpec.ofChange fnExactLoudShareSpec)

/-- ITS FALSE NEIGHBOUR: 'it returns false'. Refute it at one input. -/
def fnExactLoudShareWrong : ChangeSpec := { name := "fnExactLoudShare", fn := fun _ => fun
  | [d1, d2] => { results := [.lit (.bool false)], args := [d1, d2] }
  | _ => none }
def FnExactLoudShareWrongFalsely : Prop := fnExactLoudShareRow.holds Try.pinned (OpenSpec.ofChange fnExactLoudShareWrong)

/-- 'laws.FnExactMovePlayer': WHATEVER THE INPUT: true; the input reads as it did. -/
def fnExactMovePlayerSpec : ChangeSpec := { name := "fnExactMovePlayer", fn := fun _ => fun
  | [d1, d2, d3] => { results := [.lit (.bool true)], args := [d1, d2, d3] }
  | _ => none }
def fnExactMovePlayerRow : OpenClaim := { program := "ytiobljdhlbobpaa", sum := "18c590835349f8ac7c030db29c3f9f9e62c4b565ce4581ee1cc694e3de0659d8", func := "loop.example/g00939/laws.FnExactMovePlayer", spec := "fnExactMovePlayer", apart := false }
def FnExactMovePlayerSaid : Prop := fnExactMovePlayerRow.holds Try.pinned (OpenSpec.ofChange fnExactMovePlayerSpec)

/-- ITS FALSE NEIGHBOUR: 'it returns false'. Refute it at one input. -/
def fnExactMovePlayerWrong : ChangeSpec := { name := "fnExactMovePlayer", fn := fun _ => fun
  | [d1, d2, d3] => { results := [.lit (.bool false)], args := [d1, d2, d3] }
  | _ => none }
def FnExactMovePlayerWrongFalsely : Prop := fnExactMovePlayerRow.holds Try.pinned (OpenSpec.ofChange fnExactMovePlayerWrong)

/-- 'laws.FnExactJoinSections': WHATEVER THE INPUT: true; the input reads as it did. -/
def fnExactJoinSectionsSpec : ChangeSpec := { name := "fnExactJoinSections", fn := fun _ => fun
  | [d1, d2, d3] => { results := [.lit (.bool true)], args := [d1, d2, d3] }
  | _ => none }
def fnExactJoinSectionsRow : OpenClaim := { program := "ytiobljdhlbobpaa", sum := "18c590835349f8ac7c030db29c3f9f9e62c4b565ce4581ee1cc694e3de0659d8", func := "loop.example/g00939/laws.FnExactJoinSections", spec := "fnExactJoinSections", apart := false }
def FnExactJoinSectionsSaid : Prop := fnExactJoinSectionsRow.holds Try.pinned (OpenSpec.ofChange fnExactJoinSectionsSpec)

/-- ITS FALSE NEIGHBOUR: 'it returns false'. Refute it at one input. -/
def fnExactJoinSectionsWrong : ChangeSpec := { name := "fnExactJoinSections", fn := fun _ => fun
  | [d1, d2, d3] => { results := [.lit (.bool false)], args := [d1, d2, d3] }
  | _ => none }
def FnExactJoinSectionsWrongFalsely : Prop := fnExactJoinSectionsRow.holds Try.pinned (OpenSpec.ofChange fnExactJoinSectionsWrong)

/-- 'laws.FnExactMembersOf': WHATEVER THE INPUT: true; the input reads as it did. -/
def fnExactMembersOfSpec : ChangeSpec := { name := "fnExactMembersOf", fn := fun _ => fun
  | [d1, d2] => { results := [.lit (.bool true)], args := [d1, d2] }
  | _ => none }
def fnExactMembersOfRow : OpenClaim := { program := "ytiobljdhlbobpaa", sum := "18c590835349f8ac7c030db29c3f9f9e62c4b565ce4581ee1cc694e3de0659d8", func := "loop.example/g00939/laws.FnExactMembersOf", spec := "fnExactMembersOf", apart := false }
def FnExactMembersOfSaid : Prop := fnExactMembersOfRow.holds Try.pinned (OpenSpec.ofChange fnExactMembersOfSpec)

/-- ITS FALSE NEIGHBOUR: 'it returns false'. Refute it at one input. -/
def fnExactMembersOfWrong : ChangeSpec := { name := "fnExactMembersOf", fn := fun _ => fun
  | [d1, d2] => { results := [.lit (.bool false)], args := [d1, d2] }
  | _ => none }
def FnExactMembersOfWrongFalsely : Prop := fnExactMembersOfRow.holds Try.pinned (OpenSpec.ofChange fnExactMembersOfWrong)

/-- 'laws.FnExactRowsOf': WHATEVER THE INPUT: true; the input reads as it did. -/
def fnExactRowsOfSpec : ChangeSpec := { name := "fnExactRowsOf", fn := fun _ => fun
  | [d1, d2] => { results := [.lit (.bool true)], args := [d1, d2] }
  | _ => none }
def fnExactRowsOfRow : OpenClaim := { program := "ytiobljdhlbobpaa", sum := "18c590835349f8ac7c030db29c3f9f9e62c4b565ce4581ee1cc694e3de0659d8", func := "loop.example/g00939/laws.FnExactRowsOf", spec := "fnExactRowsOf", apart := false }
def FnExactRowsOfSaid : Prop := fnExactRowsOfRow.holds Try.pinned (OpenSpec.ofChange fnExactRowsOfSpec)

/-- ITS FALSE NEIGHBOUR: 'it returns false'. Refute it at one input. -/
def fnExactRowsOfWrong : ChangeSpec := { name := "fnExactRowsOf", fn := fun _ => fun
  | [d1, d2] => { results := [.lit (.bool false)], args := [d1, d2] }
  | _ => none }
def FnExactRowsOfWrongFalsely : Prop := fnExactRowsOfRow.holds Try.pinned (OpenSpec.ofChange fnExactRowsOfWrong)

/-- 'laws.FnExactSplitSection': WHATEVER THE INPUT: true; the input reads as it did. -/
def fnExactSplitSectionSpec : ChangeSpec := { name := "fnExactSplitSection", fn := fun _ => fun
  | [d1, d2, d3, d4] => { results := [.lit (.bool true)], args := [d1, d2, d3, d4] }
  | _ => none }
def fnExactSplitSectionRow : OpenClaim := { program := "ytiobljdhlbobpaa", sum := "18c590835349f8ac7c030db29c3f9f9e62c4b565ce4581ee1cc694e3de0659d8", func := "loop.example/g00939/laws.FnExactSplitSection", spec := "fnExactSplitSection", inPlace := ["slices.overlaps[loop.example/g00939/impl.Section]"], apart := false }
def FnExactSplitSectionSaid : Prop := fnExactSplitSectionRow.holds Try.pinned (OpenSpec.ofChange fnExactSplitSectionSpec)

/-- ITS FALSE NEIGHBOUR: 'it returns false'. Refute it at one input. -/
def fnExactSplitSectionWrong : ChangeSpec := { name := "fnExactSplitSection", fn := fun _ => fun
  | [d1, d2, d3, d4] => { results := [.lit (.bool false)], args := [d1, d2, d3, d4] }
  | _ => none }
def FnExactSplitSectionWrongFalsely : Prop := fnExactSplitSectionRow.holds Try.pinned (OpenSpec.ofChange fnExactSplitSectionWrong)

/-- 'laws.FnBalance': WHATEVER THE INPUT: true; the input reads as it did. -/
def fnBalanceSpec : ChangeSpec := { name := "fnBalance", fn := fun _ => fun
  | [d1, d2] => { results := [.lit (.bool true)], args := [d1, d2] }
  | _ => none }
def fnBalanceRow : OpenClaim := { program := "ytiobljdhlbobpaa", sum := "18c590835349f8ac7c030db29c3f9f9e62c4b565ce4581ee1cc694e3de0659d8", func := "loop.example/g00939/laws.FnBalance", spec := "fnBalance", inPlace := ["slices.overlaps[loop.example/g00939/impl.Section]"], apart := false }
def FnBalanceSaid : Prop := fnBalanceRow.holds Try.pinned (OpenSpec.ofChange fnBalanceSpec)

/-- ITS FALSE NEIGHBOUR: 'it returns false'. Refute it at one input. -/
def fnBalanceWrong : ChangeSpec := { name := "fnBalance", fn := fun _ => fun
  | [d1, d2] => { results := [.lit (.bool false)], args := [d1, d2] }
  | _ => none }
def FnBalanceWrongFalsely : Prop := fnBalanceRow.holds Try.pinned (OpenSpec.ofChange fnBalanceWrong)

/- THE SECOND FORM. 'bulk': how many values and letters a reading holds, each counted each time it is reached (what is shared counts as often as it is met; a slice's spare places count too). A statement '..UptoSaid' is the law's where the arguments, and the package variables that the reading takes, are together of bulk at most 1048576: NARROWER than '..Said'. Prove '..Said' where nothing that the law and all that it calls make is longer than what came in: it says more and counts as full. Else prove '..UptoSaid'. A law counts once. -/
mutual
def uptoBulk {H : Type} : DataW H → Nat
  | .lit (.string bytes) => bytes.length + 1
  | .lit _ => 1
  | .nil => 1
  | .ptr d => uptoBulk d + 1
  | .slice elems spare => uptoBulkAll elems + uptoBulkAll spare + 1
  | .agg parts => uptoBulkAll parts + 1
  | .iface _ d => uptoBulk d + 1
  | .map entries => uptoBulkEntries entries + 1
  | .held _ => 1
def uptoBulkAll {H : Type} : List (DataW H) → Nat
  | [] => 0
  | d :: r => uptoBulk d + uptoBulkAll r
def uptoBulkEntries {H : Type} : List (Lit × DataW H) → Nat
  | [] => 0
  | x :: r => uptoBulkEntry x + uptoBulkEntries r
def uptoBulkEntry {H : Type} : Lit × DataW H → Nat
  | (.string bytes, d) => bytes.length + uptoBulk d + 1
  | (_, d) => uptoBulk d + 1
 end
def uptoSmall : (H : Type) → List (DataW H) → Bool := fun _ ds => decide (uptoBulkAll ds ≤ 1048576)
def OpenSpec.upto (s : _root_.Go.ChangeSpec) : _root_.Go.OpenSpec := { _root_.Go.OpenSpec.ofChange s with cond := some uptoSmall }

/-- 'laws.FnExactAreSections', WHERE WHAT IT READS IS OF BULK AT MOST 1048576: true; the input reads as it did. -/
def fnExactAreSectionsUptoRow : OpenClaim := { program := "ytiobljdhlbobpaa", sum := "18c590835349f8ac7c030db29c3f9f9e62c4b565ce4581ee1cc694e3de0659d8", func := "loop.example/g00939/laws.FnExactAreSections", spec := "fnExactAreSections", apart := false, narrowed := true }
def FnExactAreSectionsUptoSaid : Prop := fnExactAreSectionsUptoRow.holds Try.pinned (OpenSpec.upto fnExactAreSectionsSpec)

/-- 'laws.FnExactSectionOf', WHERE WHAT IT READS IS OF BULK AT MOST 1048576: true; the input reads as it did. -/
def fnExactSectionOfUptoRow : OpenClaim := { program := "ytiobljdhlbobpaa", sum := "18c590835349f8ac7c030db29c3f9f9e62c4b565ce4581ee1cc694e3de0659d8", func := "loop.example/g00939/laws.FnExactSectionOf", spec := "fnExactSectionOf", apart := false, narrowed := true }
def FnExactSectionOfUptoSaid : Prop := fnExactSectionOfUptoRow.holds Try.pinned (OpenSpec.upto fnExactSectionOfSpec)

/-- 'laws.FnExactLoudestSection', WHERE WHAT IT READS IS OF BULK AT MOST 1048576: true; the input reads as it did. -/
def fnExactLoudestSectionUptoRow : OpenClaim := { program := "ytiobljdhlbobpaa", sum := "18c590835349f8ac7c030db29c3f9f9e62c4b565ce4581ee1cc694e3de0659d8", func := "loop.example/g00939/laws.FnExactLoudestSection", spec := "fnExactLoudestSection", apart := false, narrowed := true }
def FnExactLoudestSectionUptoSaid : Prop := fnExactLoudestSectionUptoRow.holds Try.pinned (OpenSpec.upto fnExactLoudestSectionSpec)

/-- 'laws.FnExactLoudShare', WHERE WHAT IT READS IS OF BULK AT MOST 1048576: true; the input reads as it did. -/
def fnExactLoudShareUptoRow : OpenClaim := { program := "ytiobljdhlbobpaa", sum := "18c590835349f8ac7c030db29c3f9f9e62c4b565ce4581ee1cc694e3de0659d8", func := "loop.example/g00939/laws.FnExactLoudShare", spec := "fnExactLoudShare", apart := false, narrowed := true }
def FnExactLoudShareUptoSaid : Prop := fnExactLoudShareUptoRow.holds Try.pinned (OpenSpec.upto fnExactLoudShareSpec)

/-- 'laws.FnExactMovePlayer', WHERE WHAT IT READS IS OF BULK AT MOST 1048576: true; the input reads as it did. -/
def fnExactMovePlayerUptoRow : OpenClaim := { program := "ytiobljdhlbobpaa", sum := "18c590835349f8ac7c030db29c3f9f9e62c4b565ce4581ee1cc694e3de0659d8", func := "loop.example/g00939/laws.FnExactMovePlayer", spec := "fnExactMovePlayer", apart := false, narrowed := true }
def FnExactMovePlayerUptoSaid : Prop := fnExactMovePlayerUptoRow.holds Try.pinned (OpenSpec.upto fnExactMovePlayerSpec)

/-- 'laws.FnExactJoinSections', WHERE WHAT IT READS IS OF BULK AT MOST 1048576: true; the input reads as it did. -/
def fnExactJoinSectionsUptoRow : OpenClaim := { program := "ytiobljdhlbobpaa", sum := "18c590835349f8ac7c030db29c3f9f9e62c4b565ce4581ee1cc694e3de0659d8", func := "loop.example/g00939/laws.FnExactJoinSections", spec := "fnExactJoinSections", apart := false, narrowed := true }
def FnExactJoinSectionsUptoSaid : Prop := fnExactJoinSectionsUptoRow.holds Try.pinned (OpenSpec.upto fnExactJoinSectionsSpec)

/-- 'laws.FnExactMembersOf', WHERE WHAT IT READS IS OF BULK AT MOST 1048576: true; the input reads as it did. -/
def fnExactMembersOfUptoRow : OpenClaim := { program := "ytiobljdhlbobpaa", sum := "18c590835349f8ac7c030db29c3f9f9e62c4b565ce4581ee1cc694e3de0659d8", func := "loop.example/g00939/laws.FnExactMembersOf", spec := "fnExactMembersOf", apart := false, narrowed := true }
def FnExactMembersOfUptoSaid : Prop := fnExactMembersOfUptoRow.holds Try.pinned (OpenSpec.upto fnExactMembersOfSpec)

/-- 'laws.FnExactRowsOf', WHERE WHAT IT READS IS OF BULK AT MOST 1048576: true; the input reads as it did. -/
def fnExactRowsOfUptoRow : OpenClaim := { program := "ytiobljdhlbobpaa", sum := "18c590835349f8ac7c030db29c3f9f9e62c4b565ce4581ee1cc694e3de0659d8", func := "loop.example/g00939/laws.FnExactRowsOf", spec := "fnExactRowsOf", apart := false, narrowed := true }
def FnExactRowsOfUptoSaid : Prop := fnExactRowsOfUptoRow.holds Try.pinned (OpenSpec.upto fnExactRowsOfSpec)

/-- 'laws.FnExactSplitSection', WHERE WHAT IT READS IS OF BULK AT MOST 1048576: true; the input reads as it did. -/
def fnExactSplitSectionUptoRow : OpenClaim := { program := "ytiobljdhlbobpaa", sum := "18c590835349f8ac7c030db29c3f9f9e62c4b565ce4581ee1cc694e3de0659d8", func := "loop.example/g00939/laws.FnExactSplitSection", spec := "fnExactSplitSection", inPlace := ["slices.overlaps[loop.example/g00939/impl.Section]"], apart := false, narrowed := true }
def FnExactSplitSectionUptoSaid : Prop := fnExactSplitSectionUptoRow.holds Try.pinned (OpenSpec.upto fnExactSplitSectionSpec)

/-- 'laws.FnBalance', WHERE WHAT IT READS IS OF BULK AT MOST 1048576: true; the input reads as it did. -/
def fnBalanceUptoRow : OpenClaim := { program := "ytiobljdhlbobpaa", sum := "18c590835349f8ac7c030db29c3f9f9e62c4b565ce4581ee1cc694e3de0659d8", func := "loop.example/g00939/laws.FnBalance", spec := "fnBalance", inPlace := ["slices.overlaps[loop.example/g00939/impl.Section]"], apart := false, narrowed := true }
def FnBalanceUptoSaid : Prop := fnBalanceUptoRow.holds Try.pinned (OpenSpec.upto fnBalanceSpec)

end Rows
end Go.Proofs.Ytiobljdhlbobpaa
