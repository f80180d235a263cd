/-
  DERIVED. GIVEN WITH THE SEED: THE CARDS: each row of YtgbgmmdpldekbaaDoorRows.lean that lists a variable, with what it lists TIED to the program's text (the seventh form; the later family's looks); each row that meets fmt, with fmt's text TOLD by the authors' own Lean function (tested against real Go, not proved from fmt's source: count such statements apart). THE CARD IS WHAT COUNTS. Prove the row's statement (the work); the ties are given (YtgbgmmdpldekbaaDoorTie.lean); close each card by the builder's one call (the guide's Derived/Test/ToyasCard.lean, 'card_holds'). Laid BY PROGRAM, IN A SANDBOX (cutbox-door.mjs). By AI agents, Wed Nov 11 2026. No macro, syntax, notation, axiom, sorry.
-/
import Derived.Test.YtgbgmmdpldekbaaDoorRows
import GoSem.ClaimSeven
namespace Go.Proofs.YtgbgmmdpldekbaaDoor
namespace Rows

/-- THE TIED CARD OF 'laws.FnBooked'. -/
def fnBookedCard : Claim7 := { stood := { row := fnBookedRow, standIns := [], harness := (true, "3f74357946ad71ac4e3b3dcfd73d670f3775017903c6844e4025e4c15451aab0"), looks := false }, kinds := [], alts := [], laidByText := true, laidKinds := [.data, .data, .data], laidTests := true, laidLooks := .later }
def FnBookedCardSaid : Prop := Claim7.holds Tryd.pinned (.plain (OpenSpec.ofChange fnBookedSpec)) fnBookedCard

/-- THE TIED CARD OF 'laws.FnRooms'. -/
def fnRoomsCard : Claim7 := { stood := { row := fnRoomsRow, standIns := [], harness := (true, "3f74357946ad71ac4e3b3dcfd73d670f3775017903c6844e4025e4c15451aab0"), looks := false }, kinds := [], alts := [], laidByText := true, laidKinds := [.data, .data, .data, .data, .pinned], laidTests := true, laidLooks := .later }
def FnRoomsCardSaid : Prop := Claim7.holds Tryd.pinned (.plain (OpenSpec.ofChange fnRoomsSpec)) fnRoomsCard

/-- THE SECOND FORM's CARD OF 'laws.FnBooked'. -/
def fnBookedUptoCard : Claim7 := { stood := { row := fnBookedUptoRow, standIns := [], harness := (true, "3f74357946ad71ac4e3b3dcfd73d670f3775017903c6844e4025e4c15451aab0"), looks := false }, kinds := [], alts := [], laidByText := true, laidKinds := [.data, .data, .data], laidTests := true, laidLooks := .later }
def FnBookedUptoCardSaid : Prop := Claim7.holds Tryd.pinned (.plain (OpenSpec.upto fnBookedSpec)) fnBookedUptoCard

/-- THE SECOND FORM's CARD OF 'laws.FnRooms'. -/
def fnRoomsUptoCard : Claim7 := { stood := { row := fnRoomsUptoRow, standIns := [], harness := (true, "3f74357946ad71ac4e3b3dcfd73d670f3775017903c6844e4025e4c15451aab0"), looks := false }, kinds := [], alts := [], laidByText := true, laidKinds := [.data, .data, .data, .data, .pinned], laidTests := true, laidLooks := .later }
def FnRoomsUptoCardSaid : Prop := Claim7.holds Tryd.pinned (.plain (OpenSpec.upto fnRoomsSpec)) fnRoomsUptoCard
end Rows
end Go.Proofs.YtgbgmmdpldekbaaDoor
