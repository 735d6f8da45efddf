/-
  DERIVED. GIVEN WITH THE SEED: THE CARDS: each row of YtlambdccmfnloaaGreatDoorRows.lean that lists a variable, with what it lists TIED to the program's text (the seventh form; the later family's looks); each row that meets fmt, with fmt's text TOLD by the authors' own Lean function (tested against real Go, not proved from fmt's source: count such statements apart). THE CARD IS WHAT COUNTS. Prove the row's statement (the work); the ties are given (YtlambdccmfnloaaGreatDoorTie.lean); close each card by the builder's one call (the guide's Derived/Test/ToyasCard.lean, 'card_holds'). Laid BY PROGRAM, IN A SANDBOX (cutbox-door.mjs). By AI agents, Wed Nov 11 2026. No macro, syntax, notation, axiom, sorry.
-/
import Derived.Test.YtlambdccmfnloaaGreatDoorRows
import GoSem.ClaimSeven
namespace Go.Proofs.YtlambdccmfnloaaGreatDoor
namespace Rows

/-- THE TIED CARD OF 'usherlaw26.ClientBuilds'. -/
def clientBuildsCard : Claim7 := { stood := { row := clientBuildsRow, standIns := [], harness := (true, "9da33165ed98c76f50f83c842e4cee886439da39f8f8fa177146865d1408e0ca"), looks := true }, kinds := [], alts := [], laidByText := true, laidKinds := [.data, .data, .data, .data, .sentinel, .sentinel, .pinned], laidTests := true, laidLooks := .later }
def ClientBuildsCardSaid : Prop := Claim7.holds Tryz.pinned (.plain (OpenSpec.ofChange clientBuildsSpec)) clientBuildsCard

/-- THE TIED CARD OF 'usherlaw18.ReplyEncodes'. -/
def replyEncodesCard : Claim7 := { stood := { row := replyEncodesRow, standIns := [], harness := (true, "9da33165ed98c76f50f83c842e4cee886439da39f8f8fa177146865d1408e0ca"), looks := true }, kinds := [], alts := [], laidByText := true, laidKinds := [.data, .data, .data, .data, .sentinel, .sentinel, .pinned], laidTests := true, laidLooks := .later }
def ReplyEncodesCardSaid : Prop := Claim7.holds Tryz.pinned (.plain (OpenSpec.ofChange replyEncodesSpec)) replyEncodesCard

/-- THE TIED CARD OF 'usherlaw18.ReplyReads'. -/
def replyReadsCard : Claim7 := { stood := { row := replyReadsRow, standIns := [], harness := (true, "9da33165ed98c76f50f83c842e4cee886439da39f8f8fa177146865d1408e0ca"), looks := true }, kinds := [], alts := [], laidByText := true, laidKinds := [.data, .data, .data, .data, .sentinel, .sentinel, .pinned], laidTests := true, laidLooks := .later }
def ReplyReadsCardSaid : Prop := Claim7.holds Tryz.pinned (.plain (OpenSpec.ofChange replyReadsSpec)) replyReadsCard

/-- THE TIED CARD OF 'usherlaw18.ReplyShort'. -/
def replyShortCard : Claim7 := { stood := { row := replyShortRow, standIns := [], harness := (true, "9da33165ed98c76f50f83c842e4cee886439da39f8f8fa177146865d1408e0ca"), looks := true }, kinds := [], alts := [], laidByText := true, laidKinds := [.data, .data, .data, .data, .sentinel, .sentinel, .pinned], laidTests := true, laidLooks := .later }
def ReplyShortCardSaid : Prop := Claim7.holds Tryz.pinned (.plain (OpenSpec.ofChange replyShortSpec)) replyShortCard

/-- THE TIED CARD OF 'usherlaw18.ReplyTurned'. -/
def replyTurnedCard : Claim7 := { stood := { row := replyTurnedRow, standIns := [], harness := (true, "9da33165ed98c76f50f83c842e4cee886439da39f8f8fa177146865d1408e0ca"), looks := true }, kinds := [], alts := [], laidByText := true, laidKinds := [.data, .data, .data, .data, .sentinel, .sentinel, .pinned], laidTests := true, laidLooks := .later }
def ReplyTurnedCardSaid : Prop := Claim7.holds Tryz.pinned (.plain (OpenSpec.ofChange replyTurnedSpec)) replyTurnedCard

/-- THE TIED CARD OF 'usherlaw26.ClientReplies'. -/
def clientRepliesCard : Claim7 := { stood := { row := clientRepliesRow, standIns := [], harness := (true, "9da33165ed98c76f50f83c842e4cee886439da39f8f8fa177146865d1408e0ca"), looks := true }, kinds := [], alts := [], laidByText := true, laidKinds := [.data, .data, .data, .data, .sentinel, .sentinel, .pinned], laidTests := true, laidLooks := .later }
def ClientRepliesCardSaid : Prop := Claim7.holds Tryz.pinned (.plain (OpenSpec.ofChange clientRepliesSpec)) clientRepliesCard

/-- THE TIED CARD OF 'usherlaw26.ClientReads'. -/
def clientReadsCard : Claim7 := { stood := { row := clientReadsRow, standIns := [], harness := (true, "9da33165ed98c76f50f83c842e4cee886439da39f8f8fa177146865d1408e0ca"), looks := true }, kinds := [], alts := [], laidByText := true, laidKinds := [.data, .data, .data, .data, .sentinel, .sentinel, .pinned], laidTests := true, laidLooks := .later }
def ClientReadsCardSaid : Prop := Claim7.holds Tryz.pinned (.plain (OpenSpec.ofChange clientReadsSpec)) clientReadsCard

/-- THE SECOND FORM's CARD OF 'usherlaw26.ClientBuilds'. -/
def clientBuildsUptoCard : Claim7 := { stood := { row := clientBuildsUptoRow, standIns := [], harness := (true, "9da33165ed98c76f50f83c842e4cee886439da39f8f8fa177146865d1408e0ca"), looks := true }, kinds := [], alts := [], laidByText := true, laidKinds := [.data, .data, .data, .data, .sentinel, .sentinel, .pinned], laidTests := true, laidLooks := .later }
def ClientBuildsUptoCardSaid : Prop := Claim7.holds Tryz.pinned (.plain (OpenSpec.upto clientBuildsSpec)) clientBuildsUptoCard

/-- THE SECOND FORM's CARD OF 'usherlaw18.ReplyEncodes'. -/
def replyEncodesUptoCard : Claim7 := { stood := { row := replyEncodesUptoRow, standIns := [], harness := (true, "9da33165ed98c76f50f83c842e4cee886439da39f8f8fa177146865d1408e0ca"), looks := true }, kinds := [], alts := [], laidByText := true, laidKinds := [.data, .data, .data, .data, .sentinel, .sentinel, .pinned], laidTests := true, laidLooks := .later }
def ReplyEncodesUptoCardSaid : Prop := Claim7.holds Tryz.pinned (.plain (OpenSpec.upto replyEncodesSpec)) replyEncodesUptoCard

/-- THE SECOND FORM's CARD OF 'usherlaw18.ReplyReads'. -/
def replyReadsUptoCard : Claim7 := { stood := { row := replyReadsUptoRow, standIns := [], harness := (true, "9da33165ed98c76f50f83c842e4cee886439da39f8f8fa177146865d1408e0ca"), looks := true }, kinds := [], alts := [], laidByText := true, laidKinds := [.data, .data, .data, .data, .sentinel, .sentinel, .pinned], laidTests := true, laidLooks := .later }
def ReplyReadsUptoCardSaid : Prop := Claim7.holds Tryz.pinned (.plain (OpenSpec.upto replyReadsSpec)) replyReadsUptoCard

/-- THE SECOND FORM's CARD OF 'usherlaw18.ReplyShort'. -/
def replyShortUptoCard : Claim7 := { stood := { row := replyShortUptoRow, standIns := [], harness := (true, "9da33165ed98c76f50f83c842e4cee886439da39f8f8fa177146865d1408e0ca"), looks := true }, kinds := [], alts := [], laidByText := true, laidKinds := [.data, .data, .data, .data, .sentinel, .sentinel, .pinned], laidTests := true, laidLooks := .later }
def ReplyShortUptoCardSaid : Prop := Claim7.holds Tryz.pinned (.plain (OpenSpec.upto replyShortSpec)) replyShortUptoCard

/-- THE SECOND FORM's CARD OF 'usherlaw18.ReplyTurned'. -/
def replyTurnedUptoCard : Claim7 := { stood := { row := replyTurnedUptoRow, standIns := [], harness := (true, "9da33165ed98c76f50f83c842e4cee886439da39f8f8fa177146865d1408e0ca"), looks := true }, kinds := [], alts := [], laidByText := true, laidKinds := [.data, .data, .data, .data, .sentinel, .sentinel, .pinned], laidTests := true, laidLooks := .later }
def ReplyTurnedUptoCardSaid : Prop := Claim7.holds Tryz.pinned (.plain (OpenSpec.upto replyTurnedSpec)) replyTurnedUptoCard

/-- THE SECOND FORM's CARD OF 'usherlaw26.ClientReplies'. -/
def clientRepliesUptoCard : Claim7 := { stood := { row := clientRepliesUptoRow, standIns := [], harness := (true, "9da33165ed98c76f50f83c842e4cee886439da39f8f8fa177146865d1408e0ca"), looks := true }, kinds := [], alts := [], laidByText := true, laidKinds := [.data, .data, .data, .data, .sentinel, .sentinel, .pinned], laidTests := true, laidLooks := .later }
def ClientRepliesUptoCardSaid : Prop := Claim7.holds Tryz.pinned (.plain (OpenSpec.upto clientRepliesSpec)) clientRepliesUptoCard

/-- THE SECOND FORM's CARD OF 'usherlaw26.ClientReads'. -/
def clientReadsUptoCard : Claim7 := { stood := { row := clientReadsUptoRow, standIns := [], harness := (true, "9da33165ed98c76f50f83c842e4cee886439da39f8f8fa177146865d1408e0ca"), looks := true }, kinds := [], alts := [], laidByText := true, laidKinds := [.data, .data, .data, .data, .sentinel, .sentinel, .pinned], laidTests := true, laidLooks := .later }
def ClientReadsUptoCardSaid : Prop := Claim7.holds Tryz.pinned (.plain (OpenSpec.upto clientReadsSpec)) clientReadsUptoCard
end Rows
end Go.Proofs.YtlambdccmfnloaaGreatDoor
