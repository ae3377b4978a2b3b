/-
  DERIVED. GIVEN WITH THE SEED: THE CARDS: each row of YtaajedkbaahgfaaGreatDoorRows.lean that lists a variable, with what it lists TIED to the program's text (the seventh form; the later family's looks); each row that meets fmt, with fmt's text TOLD by the authors' own Lean function (tested against real Go, not proved from fmt's source: count such statements apart). THE CARD IS WHAT COUNTS. Prove the row's statement (the work); the ties are given (YtaajedkbaahgfaaGreatDoorTie.lean); close each card by the builder's one call (the guide's Derived/Test/ToyasCard.lean, 'card_holds'). Laid BY PROGRAM, IN A SANDBOX (cutbox-door.mjs). By AI agents, Wed Nov 11 2026. No macro, syntax, notation, axiom, sorry.
-/
import Derived.Test.YtaajedkbaahgfaaGreatDoorRows
import GoSem.ClaimSeven
namespace Go.Proofs.YtaajedkbaahgfaaGreatDoor
namespace Rows

/-- THE TIED CARD OF 'touchstonelaw26.EvalMore'. -/
def evalMoreCard : Claim7 := { stood := { row := evalMoreRow, standIns := [], harness := (true, "6667b0b234ceea9ce81a202d8974b39c4772bab67d1c627c54dc3611c73e2b4f"), looks := true }, kinds := [], alts := [], laidByText := true, laidKinds := [.data, .data, .data, .data, .sentinel, .sentinel, .pinned], laidTests := true, laidLooks := .later }
def EvalMoreCardSaid : Prop := Claim7.holds Tryz.pinned (.plain (OpenSpec.ofChange evalMoreSpec)) evalMoreCard

/-- THE TIED CARD OF 'touchstonelaw26.EvalLets'. -/
def evalLetsCard : Claim7 := { stood := { row := evalLetsRow, standIns := [], harness := (true, "6667b0b234ceea9ce81a202d8974b39c4772bab67d1c627c54dc3611c73e2b4f"), looks := true }, kinds := [], alts := [], laidByText := true, laidKinds := [.data, .data, .data, .data, .sentinel, .sentinel, .pinned], laidTests := true, laidLooks := .later }
def EvalLetsCardSaid : Prop := Claim7.holds Tryz.pinned (.plain (OpenSpec.ofChange evalLetsSpec)) evalLetsCard

/-- THE SECOND FORM's CARD OF 'touchstonelaw26.EvalMore'. -/
def evalMoreUptoCard : Claim7 := { stood := { row := evalMoreUptoRow, standIns := [], harness := (true, "6667b0b234ceea9ce81a202d8974b39c4772bab67d1c627c54dc3611c73e2b4f"), looks := true }, kinds := [], alts := [], laidByText := true, laidKinds := [.data, .data, .data, .data, .sentinel, .sentinel, .pinned], laidTests := true, laidLooks := .later }
def EvalMoreUptoCardSaid : Prop := Claim7.holds Tryz.pinned (.plain (OpenSpec.upto evalMoreSpec)) evalMoreUptoCard

/-- THE SECOND FORM's CARD OF 'touchstonelaw26.EvalLets'. -/
def evalLetsUptoCard : Claim7 := { stood := { row := evalLetsUptoRow, standIns := [], harness := (true, "6667b0b234ceea9ce81a202d8974b39c4772bab67d1c627c54dc3611c73e2b4f"), looks := true }, kinds := [], alts := [], laidByText := true, laidKinds := [.data, .data, .data, .data, .sentinel, .sentinel, .pinned], laidTests := true, laidLooks := .later }
def EvalLetsUptoCardSaid : Prop := Claim7.holds Tryz.pinned (.plain (OpenSpec.upto evalLetsSpec)) evalLetsUptoCard
end Rows
end Go.Proofs.YtaajedkbaahgfaaGreatDoor
