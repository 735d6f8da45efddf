/-
  DERIVED. GIVEN WITH THE SEED: THE CARDS: each row of YtdmondfpepbniaaGreatDoorRows.lean that lists a variable, with what it lists TIED to the program's text (the seventh form; the later family's looks); each row that meets fmt, with fmt's text TOLD by the authors' own Lean function (tested against real Go, not proved from fmt's source: count such statements apart). THE CARD IS WHAT COUNTS. Prove the row's statement (the work); the ties are given (YtdmondfpepbniaaGreatDoorTie.lean); close each card by the builder's one call (the guide's Derived/Test/ToyasCard.lean, 'card_holds'). Laid BY PROGRAM, IN A SANDBOX (cutbox-door.mjs). By AI agents, Wed Nov 11 2026. No macro, syntax, notation, axiom, sorry.
-/
import Derived.Test.YtdmondfpepbniaaGreatDoorRows
import GoSem.ClaimSeven
namespace Go.Proofs.YtdmondfpepbniaaGreatDoor
namespace Rows

/-- THE TIED CARD OF 'ushertop.TopBackoff'. -/
def topBackoffCard : Claim7 := { stood := { row := topBackoffRow, standIns := [], harness := (true, "7f4797e34999344f3eca61dd99f7da64c9bee066e89e10b54e82a647a44a9bdd"), looks := true }, kinds := [], alts := [], laidByText := true, laidKinds := [.data, .data, .data, .data, .sentinel, .sentinel, .pinned], laidTests := true, laidLooks := .later }
def TopBackoffCardSaid : Prop := Claim7.holds Tryz.pinned (.plain (OpenSpec.ofChange topBackoffSpec)) topBackoffCard

/-- THE SECOND FORM's CARD OF 'ushertop.TopBackoff'. -/
def topBackoffUptoCard : Claim7 := { stood := { row := topBackoffUptoRow, standIns := [], harness := (true, "7f4797e34999344f3eca61dd99f7da64c9bee066e89e10b54e82a647a44a9bdd"), looks := true }, kinds := [], alts := [], laidByText := true, laidKinds := [.data, .data, .data, .data, .sentinel, .sentinel, .pinned], laidTests := true, laidLooks := .later }
def TopBackoffUptoCardSaid : Prop := Claim7.holds Tryz.pinned (.plain (OpenSpec.upto topBackoffSpec)) topBackoffUptoCard
end Rows
end Go.Proofs.YtdmondfpepbniaaGreatDoor
