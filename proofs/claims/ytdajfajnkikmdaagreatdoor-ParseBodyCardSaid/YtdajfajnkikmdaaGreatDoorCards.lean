/-
  DERIVED. GIVEN WITH THE SEED: THE CARDS: each row of YtdajfajnkikmdaaGreatDoorRows.lean that lists a variable, with what it lists TIED to the program's text (the seventh form; the later family's looks); each row that meets fmt, with fmt's text TOLD by the authors' own Lean function (tested against real Go, not proved from fmt's source: count such statements apart). THE CARD IS WHAT COUNTS. Prove the row's statement (the work); the ties are given (YtdajfajnkikmdaaGreatDoorTie.lean); close each card by the builder's one call (the guide's Derived/Test/ToyasCard.lean, 'card_holds'). Laid BY PROGRAM, IN A SANDBOX (cutbox-door.mjs). By AI agents, Wed Nov 11 2026. No macro, syntax, notation, axiom, sorry.
-/
import Derived.Test.YtdajfajnkikmdaaGreatDoorRows
import GoSem.ClaimSeven
namespace Go.Proofs.YtdajfajnkikmdaaGreatDoor
namespace Rows

/-- THE TIED CARD OF 'usherlaw15.ParseLengthIsOne'. -/
def parseLengthIsOneCard : Claim7 := { stood := { row := parseLengthIsOneRow, standIns := [], harness := (true, "e64b6253ecf00a6927ca0ad24e0893622ccaf158c8cb0e81848d11ec034ec980"), looks := true }, kinds := [], alts := [], laidByText := true, laidKinds := [.data, .data, .data, .data, .sentinel, .sentinel, .pinned], laidTests := true, laidLooks := .later }
def ParseLengthIsOneCardSaid : Prop := Claim7.holds Tryz.pinned (.plain (OpenSpec.ofChange parseLengthIsOneSpec)) parseLengthIsOneCard

/-- THE TIED CARD OF 'usherlaw15.ParseBody'. -/
def parseBodyCard : Claim7 := { stood := { row := parseBodyRow, standIns := [], harness := (true, "e64b6253ecf00a6927ca0ad24e0893622ccaf158c8cb0e81848d11ec034ec980"), looks := true }, kinds := [], alts := [], laidByText := true, laidKinds := [.data, .data, .data, .data, .sentinel, .sentinel, .pinned], laidTests := true, laidLooks := .later }
def ParseBodyCardSaid : Prop := Claim7.holds Tryz.pinned (.plain (OpenSpec.ofChange parseBodySpec)) parseBodyCard

/-- THE TIED CARD OF 'usherlaw15.ParseLong'. -/
def parseLongCard : Claim7 := { stood := { row := parseLongRow, standIns := [], harness := (true, "e64b6253ecf00a6927ca0ad24e0893622ccaf158c8cb0e81848d11ec034ec980"), looks := true }, kinds := [], alts := [], laidByText := true, laidKinds := [.data, .data, .data, .data, .sentinel, .sentinel, .pinned], laidTests := true, laidLooks := .later }
def ParseLongCardSaid : Prop := Claim7.holds Tryz.pinned (.plain (OpenSpec.ofChange parseLongSpec)) parseLongCard

/-- THE TIED CARD OF 'usherlaw15.ParseFeeds'. -/
def parseFeedsCard : Claim7 := { stood := { row := parseFeedsRow, standIns := [], harness := (true, "e64b6253ecf00a6927ca0ad24e0893622ccaf158c8cb0e81848d11ec034ec980"), looks := true }, kinds := [], alts := [], laidByText := true, laidKinds := [.data, .data, .data, .data, .sentinel, .sentinel, .pinned], laidTests := true, laidLooks := .later }
def ParseFeedsCardSaid : Prop := Claim7.holds Tryz.pinned (.plain (OpenSpec.ofChange parseFeedsSpec)) parseFeedsCard

/-- THE TIED CARD OF 'usherlaw15.ParseCuts'. -/
def parseCutsCard : Claim7 := { stood := { row := parseCutsRow, standIns := [], harness := (true, "e64b6253ecf00a6927ca0ad24e0893622ccaf158c8cb0e81848d11ec034ec980"), looks := true }, kinds := [], alts := [], laidByText := true, laidKinds := [.data, .data, .data, .data, .sentinel, .sentinel, .pinned], laidTests := true, laidLooks := .later }
def ParseCutsCardSaid : Prop := Claim7.holds Tryz.pinned (.plain (OpenSpec.ofChange parseCutsSpec)) parseCutsCard

/-- THE TIED CARD OF 'usherlaw15.ParseOfNothing'. -/
def parseOfNothingCard : Claim7 := { stood := { row := parseOfNothingRow, standIns := [], harness := (true, "e64b6253ecf00a6927ca0ad24e0893622ccaf158c8cb0e81848d11ec034ec980"), looks := true }, kinds := [], alts := [], laidByText := true, laidKinds := [.data, .data, .data, .data, .sentinel, .sentinel, .pinned], laidTests := true, laidLooks := .later }
def ParseOfNothingCardSaid : Prop := Claim7.holds Tryz.pinned (.plain (OpenSpec.ofChange parseOfNothingSpec)) parseOfNothingCard

/-- THE TIED CARD OF 'usherlaw26.ClientPosts'. -/
def clientPostsCard : Claim7 := { stood := { row := clientPostsRow, standIns := [], harness := (true, "e64b6253ecf00a6927ca0ad24e0893622ccaf158c8cb0e81848d11ec034ec980"), looks := true }, kinds := [], alts := [], laidByText := true, laidKinds := [.data, .data, .data, .data, .sentinel, .sentinel, .pinned], laidTests := true, laidLooks := .later }
def ClientPostsCardSaid : Prop := Claim7.holds Tryz.pinned (.plain (OpenSpec.ofChange clientPostsSpec)) clientPostsCard

/-- THE TIED CARD OF 'usherlaw16.SpecReads'. -/
def specReadsCard : Claim7 := { stood := { row := specReadsRow, standIns := [], harness := (true, "e64b6253ecf00a6927ca0ad24e0893622ccaf158c8cb0e81848d11ec034ec980"), looks := true }, kinds := [], alts := [], laidByText := true, laidKinds := [.data, .data, .data, .data, .sentinel, .sentinel, .pinned], laidTests := true, laidLooks := .later }
def SpecReadsCardSaid : Prop := Claim7.holds Tryz.pinned (.plain (OpenSpec.ofChange specReadsSpec)) specReadsCard

/-- THE TIED CARD OF 'usherlaw16.SpecParses'. -/
def specParsesCard : Claim7 := { stood := { row := specParsesRow, standIns := [], harness := (true, "e64b6253ecf00a6927ca0ad24e0893622ccaf158c8cb0e81848d11ec034ec980"), looks := true }, kinds := [], alts := [], laidByText := true, laidKinds := [.data, .data, .data, .data, .sentinel, .sentinel, .pinned], laidTests := true, laidLooks := .later }
def SpecParsesCardSaid : Prop := Claim7.holds Tryz.pinned (.plain (OpenSpec.ofChange specParsesSpec)) specParsesCard

/-- THE TIED CARD OF 'usherlaw16.SpecBegins'. -/
def specBeginsCard : Claim7 := { stood := { row := specBeginsRow, standIns := [], harness := (true, "e64b6253ecf00a6927ca0ad24e0893622ccaf158c8cb0e81848d11ec034ec980"), looks := true }, kinds := [], alts := [], laidByText := true, laidKinds := [.data, .data, .data, .data, .sentinel, .sentinel, .pinned], laidTests := true, laidLooks := .later }
def SpecBeginsCardSaid : Prop := Claim7.holds Tryz.pinned (.plain (OpenSpec.ofChange specBeginsSpec)) specBeginsCard

/-- THE TIED CARD OF 'usherlaw16.SpecJoins'. -/
def specJoinsCard : Claim7 := { stood := { row := specJoinsRow, standIns := [], harness := (true, "e64b6253ecf00a6927ca0ad24e0893622ccaf158c8cb0e81848d11ec034ec980"), looks := true }, kinds := [], alts := [], laidByText := true, laidKinds := [.data, .data, .data, .data, .sentinel, .sentinel, .pinned], laidTests := true, laidLooks := .later }
def SpecJoinsCardSaid : Prop := Claim7.holds Tryz.pinned (.plain (OpenSpec.ofChange specJoinsSpec)) specJoinsCard

/-- THE TIED CARD OF 'usherlaw16.SpecSame'. -/
def specSameCard : Claim7 := { stood := { row := specSameRow, standIns := [], harness := (true, "e64b6253ecf00a6927ca0ad24e0893622ccaf158c8cb0e81848d11ec034ec980"), looks := true }, kinds := [], alts := [], laidByText := true, laidKinds := [.data, .data, .data, .data, .sentinel, .sentinel, .pinned], laidTests := true, laidLooks := .later }
def SpecSameCardSaid : Prop := Claim7.holds Tryz.pinned (.plain (OpenSpec.ofChange specSameSpec)) specSameCard

/-- THE SECOND FORM's CARD OF 'usherlaw15.ParseLengthIsOne'. -/
def parseLengthIsOneUptoCard : Claim7 := { stood := { row := parseLengthIsOneUptoRow, standIns := [], harness := (true, "e64b6253ecf00a6927ca0ad24e0893622ccaf158c8cb0e81848d11ec034ec980"), looks := true }, kinds := [], alts := [], laidByText := true, laidKinds := [.data, .data, .data, .data, .sentinel, .sentinel, .pinned], laidTests := true, laidLooks := .later }
def ParseLengthIsOneUptoCardSaid : Prop := Claim7.holds Tryz.pinned (.plain (OpenSpec.upto parseLengthIsOneSpec)) parseLengthIsOneUptoCard

/-- THE SECOND FORM's CARD OF 'usherlaw15.ParseBody'. -/
def parseBodyUptoCard : Claim7 := { stood := { row := parseBodyUptoRow, standIns := [], harness := (true, "e64b6253ecf00a6927ca0ad24e0893622ccaf158c8cb0e81848d11ec034ec980"), looks := true }, kinds := [], alts := [], laidByText := true, laidKinds := [.data, .data, .data, .data, .sentinel, .sentinel, .pinned], laidTests := true, laidLooks := .later }
def ParseBodyUptoCardSaid : Prop := Claim7.holds Tryz.pinned (.plain (OpenSpec.upto parseBodySpec)) parseBodyUptoCard

/-- THE SECOND FORM's CARD OF 'usherlaw15.ParseLong'. -/
def parseLongUptoCard : Claim7 := { stood := { row := parseLongUptoRow, standIns := [], harness := (true, "e64b6253ecf00a6927ca0ad24e0893622ccaf158c8cb0e81848d11ec034ec980"), looks := true }, kinds := [], alts := [], laidByText := true, laidKinds := [.data, .data, .data, .data, .sentinel, .sentinel, .pinned], laidTests := true, laidLooks := .later }
def ParseLongUptoCardSaid : Prop := Claim7.holds Tryz.pinned (.plain (OpenSpec.upto parseLongSpec)) parseLongUptoCard

/-- THE SECOND FORM's CARD OF 'usherlaw15.ParseFeeds'. -/
def parseFeedsUptoCard : Claim7 := { stood := { row := parseFeedsUptoRow, standIns := [], harness := (true, "e64b6253ecf00a6927ca0ad24e0893622ccaf158c8cb0e81848d11ec034ec980"), looks := true }, kinds := [], alts := [], laidByText := true, laidKinds := [.data, .data, .data, .data, .sentinel, .sentinel, .pinned], laidTests := true, laidLooks := .later }
def ParseFeedsUptoCardSaid : Prop := Claim7.holds Tryz.pinned (.plain (OpenSpec.upto parseFeedsSpec)) parseFeedsUptoCard

/-- THE SECOND FORM's CARD OF 'usherlaw15.ParseCuts'. -/
def parseCutsUptoCard : Claim7 := { stood := { row := parseCutsUptoRow, standIns := [], harness := (true, "e64b6253ecf00a6927ca0ad24e0893622ccaf158c8cb0e81848d11ec034ec980"), looks := true }, kinds := [], alts := [], laidByText := true, laidKinds := [.data, .data, .data, .data, .sentinel, .sentinel, .pinned], laidTests := true, laidLooks := .later }
def ParseCutsUptoCardSaid : Prop := Claim7.holds Tryz.pinned (.plain (OpenSpec.upto parseCutsSpec)) parseCutsUptoCard

/-- THE SECOND FORM's CARD OF 'usherlaw15.ParseOfNothing'. -/
def parseOfNothingUptoCard : Claim7 := { stood := { row := parseOfNothingUptoRow, standIns := [], harness := (true, "e64b6253ecf00a6927ca0ad24e0893622ccaf158c8cb0e81848d11ec034ec980"), looks := true }, kinds := [], alts := [], laidByText := true, laidKinds := [.data, .data, .data, .data, .sentinel, .sentinel, .pinned], laidTests := true, laidLooks := .later }
def ParseOfNothingUptoCardSaid : Prop := Claim7.holds Tryz.pinned (.plain (OpenSpec.upto parseOfNothingSpec)) parseOfNothingUptoCard

/-- THE SECOND FORM's CARD OF 'usherlaw26.ClientPosts'. -/
def clientPostsUptoCard : Claim7 := { stood := { row := clientPostsUptoRow, standIns := [], harness := (true, "e64b6253ecf00a6927ca0ad24e0893622ccaf158c8cb0e81848d11ec034ec980"), looks := true }, kinds := [], alts := [], laidByText := true, laidKinds := [.data, .data, .data, .data, .sentinel, .sentinel, .pinned], laidTests := true, laidLooks := .later }
def ClientPostsUptoCardSaid : Prop := Claim7.holds Tryz.pinned (.plain (OpenSpec.upto clientPostsSpec)) clientPostsUptoCard

/-- THE SECOND FORM's CARD OF 'usherlaw16.SpecReads'. -/
def specReadsUptoCard : Claim7 := { stood := { row := specReadsUptoRow, standIns := [], harness := (true, "e64b6253ecf00a6927ca0ad24e0893622ccaf158c8cb0e81848d11ec034ec980"), looks := true }, kinds := [], alts := [], laidByText := true, laidKinds := [.data, .data, .data, .data, .sentinel, .sentinel, .pinned], laidTests := true, laidLooks := .later }
def SpecReadsUptoCardSaid : Prop := Claim7.holds Tryz.pinned (.plain (OpenSpec.upto specReadsSpec)) specReadsUptoCard

/-- THE SECOND FORM's CARD OF 'usherlaw16.SpecParses'. -/
def specParsesUptoCard : Claim7 := { stood := { row := specParsesUptoRow, standIns := [], harness := (true, "e64b6253ecf00a6927ca0ad24e0893622ccaf158c8cb0e81848d11ec034ec980"), looks := true }, kinds := [], alts := [], laidByText := true, laidKinds := [.data, .data, .data, .data, .sentinel, .sentinel, .pinned], laidTests := true, laidLooks := .later }
def SpecParsesUptoCardSaid : Prop := Claim7.holds Tryz.pinned (.plain (OpenSpec.upto specParsesSpec)) specParsesUptoCard

/-- THE SECOND FORM's CARD OF 'usherlaw16.SpecBegins'. -/
def specBeginsUptoCard : Claim7 := { stood := { row := specBeginsUptoRow, standIns := [], harness := (true, "e64b6253ecf00a6927ca0ad24e0893622ccaf158c8cb0e81848d11ec034ec980"), looks := true }, kinds := [], alts := [], laidByText := true, laidKinds := [.data, .data, .data, .data, .sentinel, .sentinel, .pinned], laidTests := true, laidLooks := .later }
def SpecBeginsUptoCardSaid : Prop := Claim7.holds Tryz.pinned (.plain (OpenSpec.upto specBeginsSpec)) specBeginsUptoCard

/-- THE SECOND FORM's CARD OF 'usherlaw16.SpecJoins'. -/
def specJoinsUptoCard : Claim7 := { stood := { row := specJoinsUptoRow, standIns := [], harness := (true, "e64b6253ecf00a6927ca0ad24e0893622ccaf158c8cb0e81848d11ec034ec980"), looks := true }, kinds := [], alts := [], laidByText := true, laidKinds := [.data, .data, .data, .data, .sentinel, .sentinel, .pinned], laidTests := true, laidLooks := .later }
def SpecJoinsUptoCardSaid : Prop := Claim7.holds Tryz.pinned (.plain (OpenSpec.upto specJoinsSpec)) specJoinsUptoCard

/-- THE SECOND FORM's CARD OF 'usherlaw16.SpecSame'. -/
def specSameUptoCard : Claim7 := { stood := { row := specSameUptoRow, standIns := [], harness := (true, "e64b6253ecf00a6927ca0ad24e0893622ccaf158c8cb0e81848d11ec034ec980"), looks := true }, kinds := [], alts := [], laidByText := true, laidKinds := [.data, .data, .data, .data, .sentinel, .sentinel, .pinned], laidTests := true, laidLooks := .later }
def SpecSameUptoCardSaid : Prop := Claim7.holds Tryz.pinned (.plain (OpenSpec.upto specSameSpec)) specSameUptoCard
end Rows
end Go.Proofs.YtdajfajnkikmdaaGreatDoor
