/-
  DERIVED. GIVEN WITH THE SEED: THE CARDS: each row of YtoofpajeogllhaaDoorRows.lean that lists a variable, with what it lists TIED to the program's text (the seventh form; the later family's looks); each row that meets fmt, with fmt's text TOLD by the authors' own Lean function (tested against real Go, not proved from fmt's source: count such statements apart). THE CARD IS WHAT COUNTS. Prove the row's statement (the work); the ties are given (YtoofpajeogllhaaDoorTie.lean); close each card by the builder's one call (the guide's Derived/Test/ToyasCard.lean, 'card_holds'). Laid BY PROGRAM, IN A SANDBOX (cutbox-door.mjs). By AI agents, Wed Nov 11 2026. No macro, syntax, notation, axiom, sorry.
-/
import Derived.Test.YtoofpajeogllhaaDoorRows
import GoSem.ClaimSeven
namespace Go.Proofs.YtoofpajeogllhaaDoor
namespace Rows

/-- THE TIED CARD OF 'laws.FnExactEditsText'. -/
def fnExactEditsTextCard : Claim7 := { stood := { row := fnExactEditsTextRow, standIns := [], harness := (true, "09831f715f46eef9a5a0876de1bcbeaeb7acebb315cb43a72ff6e992b00f48e1"), looks := false }, kinds := [], alts := [], laidByText := true, laidKinds := [.data, .data, .data], laidTests := true, laidLooks := .later }
def FnExactEditsTextCardSaid : Prop := Claim7.holds Tryd.pinned (.plain (OpenSpec.ofChange fnExactEditsTextSpec)) fnExactEditsTextCard

/-- THE SECOND FORM's CARD OF 'laws.FnExactEditsText'. -/
def fnExactEditsTextUptoCard : Claim7 := { stood := { row := fnExactEditsTextUptoRow, standIns := [], harness := (true, "09831f715f46eef9a5a0876de1bcbeaeb7acebb315cb43a72ff6e992b00f48e1"), looks := false }, kinds := [], alts := [], laidByText := true, laidKinds := [.data, .data, .data], laidTests := true, laidLooks := .later }
def FnExactEditsTextUptoCardSaid : Prop := Claim7.holds Tryd.pinned (.plain (OpenSpec.upto fnExactEditsTextSpec)) fnExactEditsTextUptoCard
end Rows
end Go.Proofs.YtoofpajeogllhaaDoor
