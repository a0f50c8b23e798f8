/-
  DERIVED. GIVEN WITH THE SEED: THE CARDS: each row of YtkgcnjcehhpkpaaGreatDoorRows.lean that lists a variable, with what it lists TIED to the program's text (the seventh form; the later family's looks); each row that meets fmt, with fmt's text TOLD by the authors' own Lean function (tested against real Go, not proved from fmt's source: count such statements apart). THE CARD IS WHAT COUNTS. Prove the row's statement (the work); the ties are given (YtkgcnjcehhpkpaaGreatDoorTie.lean); close each card by the builder's one call (the guide's Derived/Test/ToyasCard.lean, 'card_holds'). Laid BY PROGRAM, IN A SANDBOX (cutbox-door.mjs). By AI agents, Wed Nov 11 2026. No macro, syntax, notation, axiom, sorry.
-/
import Derived.Test.YtkgcnjcehhpkpaaGreatDoorRows
import GoSem.ClaimSeven
namespace Go.Proofs.YtkgcnjcehhpkpaaGreatDoor
namespace Rows

/-- THE TIED CARD OF 'bellwetherlaw28.ScriptNil'. -/
def scriptNilCard : Claim7 := { stood := { row := scriptNilRow, standIns := [], harness := (true, "a43cdf162b720bd1cdc623847471febe72c4725ab3bf6918725da8cb3868177c"), looks := true }, kinds := [], alts := [], laidByText := true, laidKinds := [.data, .data, .data, .pinned, .data, .sentinel, .sentinel], laidTests := true, laidLooks := .later }
def ScriptNilCardSaid : Prop := Claim7.holds Tryz.pinned (.plain (OpenSpec.ofChange scriptNilSpec)) scriptNilCard
end Rows
end Go.Proofs.YtkgcnjcehhpkpaaGreatDoor
