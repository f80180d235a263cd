/-
  DERIVED. GIVEN WITH THE SEED: THE CARDS: each row of YtpocpokbikklcaaDoorRows.lean that lists a variable, with what it lists TIED to the program's text (the seventh form; the later family's looks); each row that meets fmt, with fmt's text TOLD by the authors' own Lean function (tested against real Go, not proved from fmt's source: count such statements apart). THE CARD IS WHAT COUNTS. Prove the row's statement (the work); the ties are given (YtpocpokbikklcaaDoorTie.lean); close each card by the builder's one call (the guide's Derived/Test/ToyasCard.lean, 'card_holds'). Laid BY PROGRAM, IN A SANDBOX (cutbox-door.mjs). By AI agents, Wed Nov 11 2026. No macro, syntax, notation, axiom, sorry.
-/
import Derived.Test.YtpocpokbikklcaaDoorRows
import GoSem.ClaimSeven
namespace Go.Proofs.YtpocpokbikklcaaDoor
namespace Rows

/-- THE TIED CARD OF 'laws.FnExactWindowsText'. -/
def fnExactWindowsTextCard : Claim7 := { stood := { row := fnExactWindowsTextRow, standIns := [], harness := (true, "df8aa7ea009fa37a9a7dc571d6a4db500fc5f7752599ee93b4f4cfad114e1fbe"), looks := false }, kinds := [], alts := [], laidByText := true, laidKinds := [.data, .data, .data], laidTests := true, laidLooks := .later }
def FnExactWindowsTextCardSaid : Prop := Claim7.holds Tryd.pinned (.plain (OpenSpec.ofChange fnExactWindowsTextSpec)) fnExactWindowsTextCard

/-- THE TIED CARD OF 'laws.FnExactBookedText'. -/
def fnExactBookedTextCard : Claim7 := { stood := { row := fnExactBookedTextRow, standIns := [], harness := (true, "df8aa7ea009fa37a9a7dc571d6a4db500fc5f7752599ee93b4f4cfad114e1fbe"), looks := false }, kinds := [], alts := [], laidByText := true, laidKinds := [.data, .data, .data], laidTests := true, laidLooks := .later }
def FnExactBookedTextCardSaid : Prop := Claim7.holds Tryd.pinned (.plain (OpenSpec.ofChange fnExactBookedTextSpec)) fnExactBookedTextCard

/-- THE TIED CARD OF 'laws.FnExactParseWindows'. -/
def fnExactParseWindowsCard : Claim7 := { stood := { row := fnExactParseWindowsRow, standIns := [], harness := (true, "df8aa7ea009fa37a9a7dc571d6a4db500fc5f7752599ee93b4f4cfad114e1fbe"), looks := false }, kinds := [], alts := [], laidByText := true, laidKinds := [.data, .pinned], laidTests := true, laidLooks := .later }
def FnExactParseWindowsCardSaid : Prop := Claim7.holds Tryd.pinned (.plain (OpenSpec.ofChange fnExactParseWindowsSpec)) fnExactParseWindowsCard

/-- THE SECOND FORM's CARD OF 'laws.FnExactWindowsText'. -/
def fnExactWindowsTextUptoCard : Claim7 := { stood := { row := fnExactWindowsTextUptoRow, standIns := [], harness := (true, "df8aa7ea009fa37a9a7dc571d6a4db500fc5f7752599ee93b4f4cfad114e1fbe"), looks := false }, kinds := [], alts := [], laidByText := true, laidKinds := [.data, .data, .data], laidTests := true, laidLooks := .later }
def FnExactWindowsTextUptoCardSaid : Prop := Claim7.holds Tryd.pinned (.plain (OpenSpec.upto fnExactWindowsTextSpec)) fnExactWindowsTextUptoCard

/-- THE SECOND FORM's CARD OF 'laws.FnExactBookedText'. -/
def fnExactBookedTextUptoCard : Claim7 := { stood := { row := fnExactBookedTextUptoRow, standIns := [], harness := (true, "df8aa7ea009fa37a9a7dc571d6a4db500fc5f7752599ee93b4f4cfad114e1fbe"), looks := false }, kinds := [], alts := [], laidByText := true, laidKinds := [.data, .data, .data], laidTests := true, laidLooks := .later }
def FnExactBookedTextUptoCardSaid : Prop := Claim7.holds Tryd.pinned (.plain (OpenSpec.upto fnExactBookedTextSpec)) fnExactBookedTextUptoCard

/-- THE SECOND FORM's CARD OF 'laws.FnExactParseWindows'. -/
def fnExactParseWindowsUptoCard : Claim7 := { stood := { row := fnExactParseWindowsUptoRow, standIns := [], harness := (true, "df8aa7ea009fa37a9a7dc571d6a4db500fc5f7752599ee93b4f4cfad114e1fbe"), looks := false }, kinds := [], alts := [], laidByText := true, laidKinds := [.data, .pinned], laidTests := true, laidLooks := .later }
def FnExactParseWindowsUptoCardSaid : Prop := Claim7.holds Tryd.pinned (.plain (OpenSpec.upto fnExactParseWindowsSpec)) fnExactParseWindowsUptoCard
end Rows
end Go.Proofs.YtpocpokbikklcaaDoor
