/-
  DERIVED. GIVEN WITH THE SEED: THE CARDS: each row of YtmjekdnfkgalbaaGreatDoorRows.lean that lists a variable, with what it lists TIED to the program's text (the seventh form; the later family's looks); each row that meets fmt, with fmt's text TOLD by the authors' own Lean function (tested against real Go, not proved from fmt's source: count such statements apart). THE CARD IS WHAT COUNTS. Prove the row's statement (the work); the ties are given (YtmjekdnfkgalbaaGreatDoorTie.lean); close each card by the builder's one call (the guide's Derived/Test/ToyasCard.lean, 'card_holds'). Laid BY PROGRAM, IN A SANDBOX (cutbox-door.mjs). By AI agents, Wed Nov 11 2026. No macro, syntax, notation, axiom, sorry.
-/
import Derived.Test.YtmjekdnfkgalbaaGreatDoorRows
import GoSem.ClaimSeven
namespace Go.Proofs.YtmjekdnfkgalbaaGreatDoor
namespace Rows

/-- THE TIED CARD OF 'usherlaw26.ClientReplies'. -/
def clientRepliesCard : Claim7 := { stood := { row := clientRepliesRow, standIns := [], harness := (true, "a3617e38739b9e3385c3603e4bd28406eefd944a80601c75ad3f29fb68b6f3fb"), looks := true }, kinds := [], alts := [], laidByText := true, laidKinds := [.data, .data, .data, .data, .sentinel, .sentinel, .pinned], laidTests := true, laidLooks := .later }
def ClientRepliesCardSaid : Prop := Claim7.holds Tryz.pinned (.plain (OpenSpec.ofChange clientRepliesSpec)) clientRepliesCard

/-- THE TIED CARD OF 'usherlaw26.ClientReads'. -/
def clientReadsCard : Claim7 := { stood := { row := clientReadsRow, standIns := [], harness := (true, "a3617e38739b9e3385c3603e4bd28406eefd944a80601c75ad3f29fb68b6f3fb"), looks := true }, kinds := [], alts := [], laidByText := true, laidKinds := [.data, .data, .data, .data, .sentinel, .sentinel, .pinned], laidTests := true, laidLooks := .later }
def ClientReadsCardSaid : Prop := Claim7.holds Tryz.pinned (.plain (OpenSpec.ofChange clientReadsSpec)) clientReadsCard

/-- THE TIED CARD OF 'usherlaw18.ReplyReads'. -/
def replyReadsCard : Claim7 := { stood := { row := replyReadsRow, standIns := [], harness := (true, "a3617e38739b9e3385c3603e4bd28406eefd944a80601c75ad3f29fb68b6f3fb"), looks := true }, kinds := [], alts := [], laidByText := true, laidKinds := [.data, .data, .data, .data, .sentinel, .sentinel, .pinned], laidTests := true, laidLooks := .later }
def ReplyReadsCardSaid : Prop := Claim7.holds Tryz.pinned (.plain (OpenSpec.ofChange replyReadsSpec)) replyReadsCard

/-- THE TIED CARD OF 'usherlaw18.ReplyTurned'. -/
def replyTurnedCard : Claim7 := { stood := { row := replyTurnedRow, standIns := [], harness := (true, "a3617e38739b9e3385c3603e4bd28406eefd944a80601c75ad3f29fb68b6f3fb"), looks := true }, kinds := [], alts := [], laidByText := true, laidKinds := [.data, .data, .data, .data, .sentinel, .sentinel, .pinned], laidTests := true, laidLooks := .later }
def ReplyTurnedCardSaid : Prop := Claim7.holds Tryz.pinned (.plain (OpenSpec.ofChange replyTurnedSpec)) replyTurnedCard

/-- THE SECOND FORM's CARD OF 'usherlaw26.ClientReplies'. -/
def clientRepliesUptoCard : Claim7 := { stood := { row := clientRepliesUptoRow, standIns := [], harness := (true, "a3617e38739b9e3385c3603e4bd28406eefd944a80601c75ad3f29fb68b6f3fb"), looks := true }, kinds := [], alts := [], laidByText := true, laidKinds := [.data, .data, .data, .data, .sentinel, .sentinel, .pinned], laidTests := true, laidLooks := .later }
def ClientRepliesUptoCardSaid : Prop := Claim7.holds Tryz.pinned (.plain (OpenSpec.upto clientRepliesSpec)) clientRepliesUptoCard

/-- THE SECOND FORM's CARD OF 'usherlaw26.ClientReads'. -/
def clientReadsUptoCard : Claim7 := { stood := { row := clientReadsUptoRow, standIns := [], harness := (true, "a3617e38739b9e3385c3603e4bd28406eefd944a80601c75ad3f29fb68b6f3fb"), looks := true }, kinds := [], alts := [], laidByText := true, laidKinds := [.data, .data, .data, .data, .sentinel, .sentinel, .pinned], laidTests := true, laidLooks := .later }
def ClientReadsUptoCardSaid : Prop := Claim7.holds Tryz.pinned (.plain (OpenSpec.upto clientReadsSpec)) clientReadsUptoCard

/-- THE SECOND FORM's CARD OF 'usherlaw18.ReplyReads'. -/
def replyReadsUptoCard : Claim7 := { stood := { row := replyReadsUptoRow, standIns := [], harness := (true, "a3617e38739b9e3385c3603e4bd28406eefd944a80601c75ad3f29fb68b6f3fb"), looks := true }, kinds := [], alts := [], laidByText := true, laidKinds := [.data, .data, .data, .data, .sentinel, .sentinel, .pinned], laidTests := true, laidLooks := .later }
def ReplyReadsUptoCardSaid : Prop := Claim7.holds Tryz.pinned (.plain (OpenSpec.upto replyReadsSpec)) replyReadsUptoCard

/-- THE SECOND FORM's CARD OF 'usherlaw18.ReplyTurned'. -/
def replyTurnedUptoCard : Claim7 := { stood := { row := replyTurnedUptoRow, standIns := [], harness := (true, "a3617e38739b9e3385c3603e4bd28406eefd944a80601c75ad3f29fb68b6f3fb"), looks := true }, kinds := [], alts := [], laidByText := true, laidKinds := [.data, .data, .data, .data, .sentinel, .sentinel, .pinned], laidTests := true, laidLooks := .later }
def ReplyTurnedUptoCardSaid : Prop := Claim7.holds Tryz.pinned (.plain (OpenSpec.upto replyTurnedSpec)) replyTurnedUptoCard
end Rows
end Go.Proofs.YtmjekdnfkgalbaaGreatDoor
