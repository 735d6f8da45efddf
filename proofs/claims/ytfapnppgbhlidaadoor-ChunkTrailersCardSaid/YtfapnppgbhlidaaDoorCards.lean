/-
  DERIVED. GIVEN WITH THE SEED: THE CARDS: each row of YtfapnppgbhlidaaDoorRows.lean that lists a variable, with what it lists TIED to the program's text (the seventh form; the later family's looks); each row that meets fmt, with fmt's text TOLD by the authors' own Lean function (tested against real Go, not proved from fmt's source: count such statements apart). THE CARD IS WHAT COUNTS. Prove the row's statement (the work); the ties are given (YtfapnppgbhlidaaDoorTie.lean); close each card by the builder's one call (the guide's Derived/Test/ToyasCard.lean, 'card_holds'). Laid BY PROGRAM, IN A SANDBOX (cutbox-door.mjs). By AI agents, Wed Nov 11 2026. No macro, syntax, notation, axiom, sorry.
-/
import Derived.Test.YtfapnppgbhlidaaDoorRows
import GoSem.ClaimSeven
namespace Go.Proofs.YtfapnppgbhlidaaDoor
namespace Rows

/-- THE TIED CARD OF 'usherlaw14.ChunkMost'. -/
def chunkMostCard : Claim7 := { stood := { row := chunkMostRow, standIns := [], harness := (true, "4c0111cf6119e11e454fbbeb1411f7d8e034e89e597eb4013b6c0c73a56dbc28"), looks := true }, kinds := [], alts := [], laidByText := true, laidKinds := [.data, .data, .data, .data, .sentinel, .sentinel, .pinned], laidTests := true, laidLooks := .later }
def ChunkMostCardSaid : Prop := Claim7.holds Tryd.pinned (.plain (OpenSpec.ofChange chunkMostSpec)) chunkMostCard

/-- THE TIED CARD OF 'usherlaw14.ChunkCuts'. -/
def chunkCutsCard : Claim7 := { stood := { row := chunkCutsRow, standIns := [], harness := (true, "4c0111cf6119e11e454fbbeb1411f7d8e034e89e597eb4013b6c0c73a56dbc28"), looks := true }, kinds := [], alts := [], laidByText := true, laidKinds := [.data, .data, .data, .data, .sentinel, .sentinel, .pinned], laidTests := true, laidLooks := .later }
def ChunkCutsCardSaid : Prop := Claim7.holds Tryd.pinned (.plain (OpenSpec.ofChange chunkCutsSpec)) chunkCutsCard

/-- THE TIED CARD OF 'usherlaw14.ChunkEncodes'. -/
def chunkEncodesCard : Claim7 := { stood := { row := chunkEncodesRow, standIns := [], harness := (true, "4c0111cf6119e11e454fbbeb1411f7d8e034e89e597eb4013b6c0c73a56dbc28"), looks := true }, kinds := [], alts := [], laidByText := true, laidKinds := [.data, .data, .data, .data, .sentinel, .sentinel, .pinned], laidTests := true, laidLooks := .later }
def ChunkEncodesCardSaid : Prop := Claim7.holds Tryd.pinned (.plain (OpenSpec.ofChange chunkEncodesSpec)) chunkEncodesCard

/-- THE TIED CARD OF 'usherlaw14.ChunkOfNothing'. -/
def chunkOfNothingCard : Claim7 := { stood := { row := chunkOfNothingRow, standIns := [], harness := (true, "4c0111cf6119e11e454fbbeb1411f7d8e034e89e597eb4013b6c0c73a56dbc28"), looks := true }, kinds := [], alts := [], laidByText := true, laidKinds := [.data, .data, .data, .data, .sentinel, .sentinel, .pinned], laidTests := true, laidLooks := .later }
def ChunkOfNothingCardSaid : Prop := Claim7.holds Tryd.pinned (.plain (OpenSpec.ofChange chunkOfNothingSpec)) chunkOfNothingCard

/-- THE TIED CARD OF 'usherlaw14.ChunkTrailers'. -/
def chunkTrailersCard : Claim7 := { stood := { row := chunkTrailersRow, standIns := [], harness := (true, "4c0111cf6119e11e454fbbeb1411f7d8e034e89e597eb4013b6c0c73a56dbc28"), looks := true }, kinds := [], alts := [], laidByText := true, laidKinds := [.data, .data, .data, .data, .sentinel, .sentinel, .pinned], laidTests := true, laidLooks := .later }
def ChunkTrailersCardSaid : Prop := Claim7.holds Tryd.pinned (.plain (OpenSpec.ofChange chunkTrailersSpec)) chunkTrailersCard

/-- THE SECOND FORM's CARD OF 'usherlaw14.ChunkMost'. -/
def chunkMostUptoCard : Claim7 := { stood := { row := chunkMostUptoRow, standIns := [], harness := (true, "4c0111cf6119e11e454fbbeb1411f7d8e034e89e597eb4013b6c0c73a56dbc28"), looks := true }, kinds := [], alts := [], laidByText := true, laidKinds := [.data, .data, .data, .data, .sentinel, .sentinel, .pinned], laidTests := true, laidLooks := .later }
def ChunkMostUptoCardSaid : Prop := Claim7.holds Tryd.pinned (.plain (OpenSpec.upto chunkMostSpec)) chunkMostUptoCard

/-- THE SECOND FORM's CARD OF 'usherlaw14.ChunkCuts'. -/
def chunkCutsUptoCard : Claim7 := { stood := { row := chunkCutsUptoRow, standIns := [], harness := (true, "4c0111cf6119e11e454fbbeb1411f7d8e034e89e597eb4013b6c0c73a56dbc28"), looks := true }, kinds := [], alts := [], laidByText := true, laidKinds := [.data, .data, .data, .data, .sentinel, .sentinel, .pinned], laidTests := true, laidLooks := .later }
def ChunkCutsUptoCardSaid : Prop := Claim7.holds Tryd.pinned (.plain (OpenSpec.upto chunkCutsSpec)) chunkCutsUptoCard

/-- THE SECOND FORM's CARD OF 'usherlaw14.ChunkEncodes'. -/
def chunkEncodesUptoCard : Claim7 := { stood := { row := chunkEncodesUptoRow, standIns := [], harness := (true, "4c0111cf6119e11e454fbbeb1411f7d8e034e89e597eb4013b6c0c73a56dbc28"), looks := true }, kinds := [], alts := [], laidByText := true, laidKinds := [.data, .data, .data, .data, .sentinel, .sentinel, .pinned], laidTests := true, laidLooks := .later }
def ChunkEncodesUptoCardSaid : Prop := Claim7.holds Tryd.pinned (.plain (OpenSpec.upto chunkEncodesSpec)) chunkEncodesUptoCard

/-- THE SECOND FORM's CARD OF 'usherlaw14.ChunkOfNothing'. -/
def chunkOfNothingUptoCard : Claim7 := { stood := { row := chunkOfNothingUptoRow, standIns := [], harness := (true, "4c0111cf6119e11e454fbbeb1411f7d8e034e89e597eb4013b6c0c73a56dbc28"), looks := true }, kinds := [], alts := [], laidByText := true, laidKinds := [.data, .data, .data, .data, .sentinel, .sentinel, .pinned], laidTests := true, laidLooks := .later }
def ChunkOfNothingUptoCardSaid : Prop := Claim7.holds Tryd.pinned (.plain (OpenSpec.upto chunkOfNothingSpec)) chunkOfNothingUptoCard

/-- THE SECOND FORM's CARD OF 'usherlaw14.ChunkTrailers'. -/
def chunkTrailersUptoCard : Claim7 := { stood := { row := chunkTrailersUptoRow, standIns := [], harness := (true, "4c0111cf6119e11e454fbbeb1411f7d8e034e89e597eb4013b6c0c73a56dbc28"), looks := true }, kinds := [], alts := [], laidByText := true, laidKinds := [.data, .data, .data, .data, .sentinel, .sentinel, .pinned], laidTests := true, laidLooks := .later }
def ChunkTrailersUptoCardSaid : Prop := Claim7.holds Tryd.pinned (.plain (OpenSpec.upto chunkTrailersSpec)) chunkTrailersUptoCard
end Rows
end Go.Proofs.YtfapnppgbhlidaaDoor
