/-
  DERIVED. GIVEN WITH THE SEED: THE CARDS: each row of YtbhkcbfmlniamaaDoorRows.lean that lists a variable, with what it lists TIED to the program's text (the seventh form; the later family's looks); each row that meets fmt, with fmt's text TOLD by the authors' own Lean function (tested against real Go, not proved from fmt's source: count such statements apart). THE CARD IS WHAT COUNTS. Prove the row's statement (the work); the ties are given (YtbhkcbfmlniamaaDoorTie.lean); close each card by the builder's one call (the guide's Derived/Test/ToyasCard.lean, 'card_holds'). Laid BY PROGRAM, IN A SANDBOX (cutbox-door.mjs). By AI agents, Wed Nov 11 2026. No macro, syntax, notation, axiom, sorry.
-/
import Derived.Test.YtbhkcbfmlniamaaDoorRows
import GoSem.ClaimSeven
namespace Go.Proofs.YtbhkcbfmlniamaaDoor
namespace Rows

/-- THE TIED CARD OF 'laws.FnSections'. -/
def fnSectionsCard : Claim7 := { stood := { row := fnSectionsRow, standIns := [], harness := (true, "7ff3c8d13125d5653b342965040128eabd9ccd04705181c9ac9e310ff5d484c3"), looks := false }, kinds := [], alts := [], laidByText := true, laidKinds := [.data, .data, .data, .data, .pinned], laidTests := true, laidLooks := .later }
def FnSectionsCardSaid : Prop := Claim7.holds Tryd.pinned (.plain (OpenSpec.ofChange fnSectionsSpec)) fnSectionsCard

/-- THE TIED CARD OF 'laws.FnExactSectionsText'. -/
def fnExactSectionsTextCard : Claim7 := { stood := { row := fnExactSectionsTextRow, standIns := [], harness := (true, "7ff3c8d13125d5653b342965040128eabd9ccd04705181c9ac9e310ff5d484c3"), looks := false }, kinds := [], alts := [], laidByText := true, laidKinds := [.data, .data, .data], laidTests := true, laidLooks := .later }
def FnExactSectionsTextCardSaid : Prop := Claim7.holds Tryd.pinned (.plain (OpenSpec.ofChange fnExactSectionsTextSpec)) fnExactSectionsTextCard

/-- THE TIED CARD OF 'laws.FnExactParseSections'. -/
def fnExactParseSectionsCard : Claim7 := { stood := { row := fnExactParseSectionsRow, standIns := [], harness := (true, "7ff3c8d13125d5653b342965040128eabd9ccd04705181c9ac9e310ff5d484c3"), looks := false }, kinds := [], alts := [], laidByText := true, laidKinds := [.data, .pinned], laidTests := true, laidLooks := .later }
def FnExactParseSectionsCardSaid : Prop := Claim7.holds Tryd.pinned (.plain (OpenSpec.ofChange fnExactParseSectionsSpec)) fnExactParseSectionsCard

/-- THE SECOND FORM's CARD OF 'laws.FnSections'. -/
def fnSectionsUptoCard : Claim7 := { stood := { row := fnSectionsUptoRow, standIns := [], harness := (true, "7ff3c8d13125d5653b342965040128eabd9ccd04705181c9ac9e310ff5d484c3"), looks := false }, kinds := [], alts := [], laidByText := true, laidKinds := [.data, .data, .data, .data, .pinned], laidTests := true, laidLooks := .later }
def FnSectionsUptoCardSaid : Prop := Claim7.holds Tryd.pinned (.plain (OpenSpec.upto fnSectionsSpec)) fnSectionsUptoCard

/-- THE SECOND FORM's CARD OF 'laws.FnExactSectionsText'. -/
def fnExactSectionsTextUptoCard : Claim7 := { stood := { row := fnExactSectionsTextUptoRow, standIns := [], harness := (true, "7ff3c8d13125d5653b342965040128eabd9ccd04705181c9ac9e310ff5d484c3"), looks := false }, kinds := [], alts := [], laidByText := true, laidKinds := [.data, .data, .data], laidTests := true, laidLooks := .later }
def FnExactSectionsTextUptoCardSaid : Prop := Claim7.holds Tryd.pinned (.plain (OpenSpec.upto fnExactSectionsTextSpec)) fnExactSectionsTextUptoCard

/-- THE SECOND FORM's CARD OF 'laws.FnExactParseSections'. -/
def fnExactParseSectionsUptoCard : Claim7 := { stood := { row := fnExactParseSectionsUptoRow, standIns := [], harness := (true, "7ff3c8d13125d5653b342965040128eabd9ccd04705181c9ac9e310ff5d484c3"), looks := false }, kinds := [], alts := [], laidByText := true, laidKinds := [.data, .pinned], laidTests := true, laidLooks := .later }
def FnExactParseSectionsUptoCardSaid : Prop := Claim7.holds Tryd.pinned (.plain (OpenSpec.upto fnExactParseSectionsSpec)) fnExactParseSectionsUptoCard
end Rows
end Go.Proofs.YtbhkcbfmlniamaaDoor
