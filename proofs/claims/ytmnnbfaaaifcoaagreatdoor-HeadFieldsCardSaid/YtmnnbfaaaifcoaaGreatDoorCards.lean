/-
  DERIVED. GIVEN WITH THE SEED: THE CARDS: each row of YtmnnbfaaaifcoaaGreatDoorRows.lean that lists a variable, with what it lists TIED to the program's text (the seventh form; the later family's looks); each row that meets fmt, with fmt's text TOLD by the authors' own Lean function (tested against real Go, not proved from fmt's source: count such statements apart). THE CARD IS WHAT COUNTS. Prove the row's statement (the work); the ties are given (YtmnnbfaaaifcoaaGreatDoorTie.lean); close each card by the builder's one call (the guide's Derived/Test/ToyasCard.lean, 'card_holds'). Laid BY PROGRAM, IN A SANDBOX (cutbox-door.mjs). By AI agents, Wed Nov 11 2026. No macro, syntax, notation, axiom, sorry.
-/
import Derived.Test.YtmnnbfaaaifcoaaGreatDoorRows
import GoSem.ClaimSeven
namespace Go.Proofs.YtmnnbfaaaifcoaaGreatDoor
namespace Rows

/-- THE TIED CARD OF 'usherlaw13.HeadOfNothing'. -/
def headOfNothingCard : Claim7 := { stood := { row := headOfNothingRow, standIns := [], harness := (true, "1e983846f81d4493822285804b81aa124664f66a09c1934eb5ba9ec897c99bbb"), looks := true }, kinds := [], alts := [], laidByText := true, laidKinds := [.data, .data, .data, .data, .sentinel, .sentinel, .pinned], laidTests := true, laidLooks := .later }
def HeadOfNothingCardSaid : Prop := Claim7.holds Tryz.pinned (.plain (OpenSpec.ofChange headOfNothingSpec)) headOfNothingCard

/-- THE TIED CARD OF 'usherlaw13.HeadLines'. -/
def headLinesCard : Claim7 := { stood := { row := headLinesRow, standIns := [], harness := (true, "1e983846f81d4493822285804b81aa124664f66a09c1934eb5ba9ec897c99bbb"), looks := true }, kinds := [], alts := [], laidByText := true, laidKinds := [.data, .data, .data, .data, .sentinel, .sentinel, .pinned], laidTests := true, laidLooks := .later }
def HeadLinesCardSaid : Prop := Claim7.holds Tryz.pinned (.plain (OpenSpec.ofChange headLinesSpec)) headLinesCard

/-- THE TIED CARD OF 'usherlaw13.HeadStarts'. -/
def headStartsCard : Claim7 := { stood := { row := headStartsRow, standIns := [], harness := (true, "1e983846f81d4493822285804b81aa124664f66a09c1934eb5ba9ec897c99bbb"), looks := true }, kinds := [], alts := [], laidByText := true, laidKinds := [.data, .data, .data, .data, .sentinel, .sentinel, .pinned], laidTests := true, laidLooks := .later }
def HeadStartsCardSaid : Prop := Claim7.holds Tryz.pinned (.plain (OpenSpec.ofChange headStartsSpec)) headStartsCard

/-- THE TIED CARD OF 'usherlaw13.HeadMany'. -/
def headManyCard : Claim7 := { stood := { row := headManyRow, standIns := [], harness := (true, "1e983846f81d4493822285804b81aa124664f66a09c1934eb5ba9ec897c99bbb"), looks := true }, kinds := [], alts := [], laidByText := true, laidKinds := [.data, .data, .data, .data, .sentinel, .sentinel, .pinned], laidTests := true, laidLooks := .later }
def HeadManyCardSaid : Prop := Claim7.holds Tryz.pinned (.plain (OpenSpec.ofChange headManySpec)) headManyCard

/-- THE TIED CARD OF 'usherlaw13.HeadFields'. -/
def headFieldsCard : Claim7 := { stood := { row := headFieldsRow, standIns := [], harness := (true, "1e983846f81d4493822285804b81aa124664f66a09c1934eb5ba9ec897c99bbb"), looks := true }, kinds := [], alts := [], laidByText := true, laidKinds := [.data, .data, .data, .data, .sentinel, .sentinel, .pinned], laidTests := true, laidLooks := .later }
def HeadFieldsCardSaid : Prop := Claim7.holds Tryz.pinned (.plain (OpenSpec.ofChange headFieldsSpec)) headFieldsCard

/-- THE TIED CARD OF 'usherlaw15.ParseLengthIsOne'. -/
def parseLengthIsOneCard : Claim7 := { stood := { row := parseLengthIsOneRow, standIns := [], harness := (true, "1e983846f81d4493822285804b81aa124664f66a09c1934eb5ba9ec897c99bbb"), looks := true }, kinds := [], alts := [], laidByText := true, laidKinds := [.data, .data, .data, .data, .sentinel, .sentinel, .pinned], laidTests := true, laidLooks := .later }
def ParseLengthIsOneCardSaid : Prop := Claim7.holds Tryz.pinned (.plain (OpenSpec.ofChange parseLengthIsOneSpec)) parseLengthIsOneCard

/-- THE TIED CARD OF 'usherlaw15.ParseBody'. -/
def parseBodyCard : Claim7 := { stood := { row := parseBodyRow, standIns := [], harness := (true, "1e983846f81d4493822285804b81aa124664f66a09c1934eb5ba9ec897c99bbb"), looks := true }, kinds := [], alts := [], laidByText := true, laidKinds := [.data, .data, .data, .data, .sentinel, .sentinel, .pinned], laidTests := true, laidLooks := .later }
def ParseBodyCardSaid : Prop := Claim7.holds Tryz.pinned (.plain (OpenSpec.ofChange parseBodySpec)) parseBodyCard

/-- THE TIED CARD OF 'usherlaw15.ParseLong'. -/
def parseLongCard : Claim7 := { stood := { row := parseLongRow, standIns := [], harness := (true, "1e983846f81d4493822285804b81aa124664f66a09c1934eb5ba9ec897c99bbb"), looks := true }, kinds := [], alts := [], laidByText := true, laidKinds := [.data, .data, .data, .data, .sentinel, .sentinel, .pinned], laidTests := true, laidLooks := .later }
def ParseLongCardSaid : Prop := Claim7.holds Tryz.pinned (.plain (OpenSpec.ofChange parseLongSpec)) parseLongCard

/-- THE TIED CARD OF 'usherlaw15.ParseFeeds'. -/
def parseFeedsCard : Claim7 := { stood := { row := parseFeedsRow, standIns := [], harness := (true, "1e983846f81d4493822285804b81aa124664f66a09c1934eb5ba9ec897c99bbb"), looks := true }, kinds := [], alts := [], laidByText := true, laidKinds := [.data, .data, .data, .data, .sentinel, .sentinel, .pinned], laidTests := true, laidLooks := .later }
def ParseFeedsCardSaid : Prop := Claim7.holds Tryz.pinned (.plain (OpenSpec.ofChange parseFeedsSpec)) parseFeedsCard

/-- THE TIED CARD OF 'usherlaw15.ParseCuts'. -/
def parseCutsCard : Claim7 := { stood := { row := parseCutsRow, standIns := [], harness := (true, "1e983846f81d4493822285804b81aa124664f66a09c1934eb5ba9ec897c99bbb"), looks := true }, kinds := [], alts := [], laidByText := true, laidKinds := [.data, .data, .data, .data, .sentinel, .sentinel, .pinned], laidTests := true, laidLooks := .later }
def ParseCutsCardSaid : Prop := Claim7.holds Tryz.pinned (.plain (OpenSpec.ofChange parseCutsSpec)) parseCutsCard

/-- THE TIED CARD OF 'usherlaw15.ParseOfNothing'. -/
def parseOfNothingCard : Claim7 := { stood := { row := parseOfNothingRow, standIns := [], harness := (true, "1e983846f81d4493822285804b81aa124664f66a09c1934eb5ba9ec897c99bbb"), looks := true }, kinds := [], alts := [], laidByText := true, laidKinds := [.data, .data, .data, .data, .sentinel, .sentinel, .pinned], laidTests := true, laidLooks := .later }
def ParseOfNothingCardSaid : Prop := Claim7.holds Tryz.pinned (.plain (OpenSpec.ofChange parseOfNothingSpec)) parseOfNothingCard

/-- THE TIED CARD OF 'usherlaw26.ClientPosts'. -/
def clientPostsCard : Claim7 := { stood := { row := clientPostsRow, standIns := [], harness := (true, "1e983846f81d4493822285804b81aa124664f66a09c1934eb5ba9ec897c99bbb"), looks := true }, kinds := [], alts := [], laidByText := true, laidKinds := [.data, .data, .data, .data, .sentinel, .sentinel, .pinned], laidTests := true, laidLooks := .later }
def ClientPostsCardSaid : Prop := Claim7.holds Tryz.pinned (.plain (OpenSpec.ofChange clientPostsSpec)) clientPostsCard

/-- THE SECOND FORM's CARD OF 'usherlaw13.HeadOfNothing'. -/
def headOfNothingUptoCard : Claim7 := { stood := { row := headOfNothingUptoRow, standIns := [], harness := (true, "1e983846f81d4493822285804b81aa124664f66a09c1934eb5ba9ec897c99bbb"), looks := true }, kinds := [], alts := [], laidByText := true, laidKinds := [.data, .data, .data, .data, .sentinel, .sentinel, .pinned], laidTests := true, laidLooks := .later }
def HeadOfNothingUptoCardSaid : Prop := Claim7.holds Tryz.pinned (.plain (OpenSpec.upto headOfNothingSpec)) headOfNothingUptoCard

/-- THE SECOND FORM's CARD OF 'usherlaw13.HeadLines'. -/
def headLinesUptoCard : Claim7 := { stood := { row := headLinesUptoRow, standIns := [], harness := (true, "1e983846f81d4493822285804b81aa124664f66a09c1934eb5ba9ec897c99bbb"), looks := true }, kinds := [], alts := [], laidByText := true, laidKinds := [.data, .data, .data, .data, .sentinel, .sentinel, .pinned], laidTests := true, laidLooks := .later }
def HeadLinesUptoCardSaid : Prop := Claim7.holds Tryz.pinned (.plain (OpenSpec.upto headLinesSpec)) headLinesUptoCard

/-- THE SECOND FORM's CARD OF 'usherlaw13.HeadStarts'. -/
def headStartsUptoCard : Claim7 := { stood := { row := headStartsUptoRow, standIns := [], harness := (true, "1e983846f81d4493822285804b81aa124664f66a09c1934eb5ba9ec897c99bbb"), looks := true }, kinds := [], alts := [], laidByText := true, laidKinds := [.data, .data, .data, .data, .sentinel, .sentinel, .pinned], laidTests := true, laidLooks := .later }
def HeadStartsUptoCardSaid : Prop := Claim7.holds Tryz.pinned (.plain (OpenSpec.upto headStartsSpec)) headStartsUptoCard

/-- THE SECOND FORM's CARD OF 'usherlaw13.HeadMany'. -/
def headManyUptoCard : Claim7 := { stood := { row := headManyUptoRow, standIns := [], harness := (true, "1e983846f81d4493822285804b81aa124664f66a09c1934eb5ba9ec897c99bbb"), looks := true }, kinds := [], alts := [], laidByText := true, laidKinds := [.data, .data, .data, .data, .sentinel, .sentinel, .pinned], laidTests := true, laidLooks := .later }
def HeadManyUptoCardSaid : Prop := Claim7.holds Tryz.pinned (.plain (OpenSpec.upto headManySpec)) headManyUptoCard

/-- THE SECOND FORM's CARD OF 'usherlaw13.HeadFields'. -/
def headFieldsUptoCard : Claim7 := { stood := { row := headFieldsUptoRow, standIns := [], harness := (true, "1e983846f81d4493822285804b81aa124664f66a09c1934eb5ba9ec897c99bbb"), looks := true }, kinds := [], alts := [], laidByText := true, laidKinds := [.data, .data, .data, .data, .sentinel, .sentinel, .pinned], laidTests := true, laidLooks := .later }
def HeadFieldsUptoCardSaid : Prop := Claim7.holds Tryz.pinned (.plain (OpenSpec.upto headFieldsSpec)) headFieldsUptoCard

/-- THE SECOND FORM's CARD OF 'usherlaw15.ParseLengthIsOne'. -/
def parseLengthIsOneUptoCard : Claim7 := { stood := { row := parseLengthIsOneUptoRow, standIns := [], harness := (true, "1e983846f81d4493822285804b81aa124664f66a09c1934eb5ba9ec897c99bbb"), looks := true }, kinds := [], alts := [], laidByText := true, laidKinds := [.data, .data, .data, .data, .sentinel, .sentinel, .pinned], laidTests := true, laidLooks := .later }
def ParseLengthIsOneUptoCardSaid : Prop := Claim7.holds Tryz.pinned (.plain (OpenSpec.upto parseLengthIsOneSpec)) parseLengthIsOneUptoCard

/-- THE SECOND FORM's CARD OF 'usherlaw15.ParseBody'. -/
def parseBodyUptoCard : Claim7 := { stood := { row := parseBodyUptoRow, standIns := [], harness := (true, "1e983846f81d4493822285804b81aa124664f66a09c1934eb5ba9ec897c99bbb"), looks := true }, kinds := [], alts := [], laidByText := true, laidKinds := [.data, .data, .data, .data, .sentinel, .sentinel, .pinned], laidTests := true, laidLooks := .later }
def ParseBodyUptoCardSaid : Prop := Claim7.holds Tryz.pinned (.plain (OpenSpec.upto parseBodySpec)) parseBodyUptoCard

/-- THE SECOND FORM's CARD OF 'usherlaw15.ParseLong'. -/
def parseLongUptoCard : Claim7 := { stood := { row := parseLongUptoRow, standIns := [], harness := (true, "1e983846f81d4493822285804b81aa124664f66a09c1934eb5ba9ec897c99bbb"), looks := true }, kinds := [], alts := [], laidByText := true, laidKinds := [.data, .data, .data, .data, .sentinel, .sentinel, .pinned], laidTests := true, laidLooks := .later }
def ParseLongUptoCardSaid : Prop := Claim7.holds Tryz.pinned (.plain (OpenSpec.upto parseLongSpec)) parseLongUptoCard

/-- THE SECOND FORM's CARD OF 'usherlaw15.ParseFeeds'. -/
def parseFeedsUptoCard : Claim7 := { stood := { row := parseFeedsUptoRow, standIns := [], harness := (true, "1e983846f81d4493822285804b81aa124664f66a09c1934eb5ba9ec897c99bbb"), looks := true }, kinds := [], alts := [], laidByText := true, laidKinds := [.data, .data, .data, .data, .sentinel, .sentinel, .pinned], laidTests := true, laidLooks := .later }
def ParseFeedsUptoCardSaid : Prop := Claim7.holds Tryz.pinned (.plain (OpenSpec.upto parseFeedsSpec)) parseFeedsUptoCard

/-- THE SECOND FORM's CARD OF 'usherlaw15.ParseCuts'. -/
def parseCutsUptoCard : Claim7 := { stood := { row := parseCutsUptoRow, standIns := [], harness := (true, "1e983846f81d4493822285804b81aa124664f66a09c1934eb5ba9ec897c99bbb"), looks := true }, kinds := [], alts := [], laidByText := true, laidKinds := [.data, .data, .data, .data, .sentinel, .sentinel, .pinned], laidTests := true, laidLooks := .later }
def ParseCutsUptoCardSaid : Prop := Claim7.holds Tryz.pinned (.plain (OpenSpec.upto parseCutsSpec)) parseCutsUptoCard

/-- THE SECOND FORM's CARD OF 'usherlaw15.ParseOfNothing'. -/
def parseOfNothingUptoCard : Claim7 := { stood := { row := parseOfNothingUptoRow, standIns := [], harness := (true, "1e983846f81d4493822285804b81aa124664f66a09c1934eb5ba9ec897c99bbb"), looks := true }, kinds := [], alts := [], laidByText := true, laidKinds := [.data, .data, .data, .data, .sentinel, .sentinel, .pinned], laidTests := true, laidLooks := .later }
def ParseOfNothingUptoCardSaid : Prop := Claim7.holds Tryz.pinned (.plain (OpenSpec.upto parseOfNothingSpec)) parseOfNothingUptoCard

/-- THE SECOND FORM's CARD OF 'usherlaw26.ClientPosts'. -/
def clientPostsUptoCard : Claim7 := { stood := { row := clientPostsUptoRow, standIns := [], harness := (true, "1e983846f81d4493822285804b81aa124664f66a09c1934eb5ba9ec897c99bbb"), looks := true }, kinds := [], alts := [], laidByText := true, laidKinds := [.data, .data, .data, .data, .sentinel, .sentinel, .pinned], laidTests := true, laidLooks := .later }
def ClientPostsUptoCardSaid : Prop := Claim7.holds Tryz.pinned (.plain (OpenSpec.upto clientPostsSpec)) clientPostsUptoCard
end Rows
end Go.Proofs.YtmnnbfaaaifcoaaGreatDoor
