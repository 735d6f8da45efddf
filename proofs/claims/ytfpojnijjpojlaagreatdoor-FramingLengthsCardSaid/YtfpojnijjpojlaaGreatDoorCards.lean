/-
  DERIVED. GIVEN WITH THE SEED: THE CARDS: each row of YtfpojnijjpojlaaGreatDoorRows.lean that lists a variable, with what it lists TIED to the program's text (the seventh form; the later family's looks); each row that meets fmt, with fmt's text TOLD by the authors' own Lean function (tested against real Go, not proved from fmt's source: count such statements apart). THE CARD IS WHAT COUNTS. Prove the row's statement (the work); the ties are given (YtfpojnijjpojlaaGreatDoorTie.lean); close each card by the builder's one call (the guide's Derived/Test/ToyasCard.lean, 'card_holds'). Laid BY PROGRAM, IN A SANDBOX (cutbox-door.mjs). By AI agents, Wed Nov 11 2026. No macro, syntax, notation, axiom, sorry.
-/
import Derived.Test.YtfpojnijjpojlaaGreatDoorRows
import GoSem.ClaimSeven
namespace Go.Proofs.YtfpojnijjpojlaaGreatDoor
namespace Rows

/-- THE TIED CARD OF 'usherlaw11.TargetParses'. -/
def targetParsesCard : Claim7 := { stood := { row := targetParsesRow, standIns := [], harness := (true, "52f13b752691479ee194229b37b8eedd3aaf90e55bebf793d2e66190647c3490"), looks := true }, kinds := [], alts := [], laidByText := true, laidKinds := [.data, .data, .data, .data, .sentinel, .sentinel, .pinned], laidTests := true, laidLooks := .later }
def TargetParsesCardSaid : Prop := Claim7.holds Tryz.pinned (.plain (OpenSpec.ofChange targetParsesSpec)) targetParsesCard

/-- THE TIED CARD OF 'usherlaw11.TargetPrints'. -/
def targetPrintsCard : Claim7 := { stood := { row := targetPrintsRow, standIns := [], harness := (true, "52f13b752691479ee194229b37b8eedd3aaf90e55bebf793d2e66190647c3490"), looks := true }, kinds := [], alts := [], laidByText := true, laidKinds := [.data, .data, .data, .data, .sentinel, .sentinel, .pinned], laidTests := true, laidLooks := .later }
def TargetPrintsCardSaid : Prop := Claim7.holds Tryz.pinned (.plain (OpenSpec.ofChange targetPrintsSpec)) targetPrintsCard

/-- THE TIED CARD OF 'usherlaw12.FramingCloses'. -/
def framingClosesCard : Claim7 := { stood := { row := framingClosesRow, standIns := [], harness := (true, "52f13b752691479ee194229b37b8eedd3aaf90e55bebf793d2e66190647c3490"), looks := true }, kinds := [], alts := [], laidByText := true, laidKinds := [.data, .data, .data, .data, .sentinel, .sentinel, .pinned], laidTests := true, laidLooks := .later }
def FramingClosesCardSaid : Prop := Claim7.holds Tryz.pinned (.plain (OpenSpec.ofChange framingClosesSpec)) framingClosesCard

/-- THE TIED CARD OF 'usherlaw12.FramingHosts'. -/
def framingHostsCard : Claim7 := { stood := { row := framingHostsRow, standIns := [], harness := (true, "52f13b752691479ee194229b37b8eedd3aaf90e55bebf793d2e66190647c3490"), looks := true }, kinds := [], alts := [], laidByText := true, laidKinds := [.data, .data, .data, .data, .sentinel, .sentinel, .pinned], laidTests := true, laidLooks := .later }
def FramingHostsCardSaid : Prop := Claim7.holds Tryz.pinned (.plain (OpenSpec.ofChange framingHostsSpec)) framingHostsCard

/-- THE TIED CARD OF 'usherlaw12.FramingOf'. -/
def framingOfCard : Claim7 := { stood := { row := framingOfRow, standIns := [], harness := (true, "52f13b752691479ee194229b37b8eedd3aaf90e55bebf793d2e66190647c3490"), looks := true }, kinds := [], alts := [], laidByText := true, laidKinds := [.data, .data, .data, .data, .sentinel, .sentinel, .pinned], laidTests := true, laidLooks := .later }
def FramingOfCardSaid : Prop := Claim7.holds Tryz.pinned (.plain (OpenSpec.ofChange framingOfSpec)) framingOfCard

/-- THE TIED CARD OF 'usherlaw12.FramingLengths'. -/
def framingLengthsCard : Claim7 := { stood := { row := framingLengthsRow, standIns := [], harness := (true, "52f13b752691479ee194229b37b8eedd3aaf90e55bebf793d2e66190647c3490"), looks := true }, kinds := [], alts := [], laidByText := true, laidKinds := [.data, .data, .data, .data, .sentinel, .sentinel, .pinned], laidTests := true, laidLooks := .later }
def FramingLengthsCardSaid : Prop := Claim7.holds Tryz.pinned (.plain (OpenSpec.ofChange framingLengthsSpec)) framingLengthsCard

/-- THE SECOND FORM's CARD OF 'usherlaw11.TargetParses'. -/
def targetParsesUptoCard : Claim7 := { stood := { row := targetParsesUptoRow, standIns := [], harness := (true, "52f13b752691479ee194229b37b8eedd3aaf90e55bebf793d2e66190647c3490"), looks := true }, kinds := [], alts := [], laidByText := true, laidKinds := [.data, .data, .data, .data, .sentinel, .sentinel, .pinned], laidTests := true, laidLooks := .later }
def TargetParsesUptoCardSaid : Prop := Claim7.holds Tryz.pinned (.plain (OpenSpec.upto targetParsesSpec)) targetParsesUptoCard

/-- THE SECOND FORM's CARD OF 'usherlaw11.TargetPrints'. -/
def targetPrintsUptoCard : Claim7 := { stood := { row := targetPrintsUptoRow, standIns := [], harness := (true, "52f13b752691479ee194229b37b8eedd3aaf90e55bebf793d2e66190647c3490"), looks := true }, kinds := [], alts := [], laidByText := true, laidKinds := [.data, .data, .data, .data, .sentinel, .sentinel, .pinned], laidTests := true, laidLooks := .later }
def TargetPrintsUptoCardSaid : Prop := Claim7.holds Tryz.pinned (.plain (OpenSpec.upto targetPrintsSpec)) targetPrintsUptoCard

/-- THE SECOND FORM's CARD OF 'usherlaw12.FramingCloses'. -/
def framingClosesUptoCard : Claim7 := { stood := { row := framingClosesUptoRow, standIns := [], harness := (true, "52f13b752691479ee194229b37b8eedd3aaf90e55bebf793d2e66190647c3490"), looks := true }, kinds := [], alts := [], laidByText := true, laidKinds := [.data, .data, .data, .data, .sentinel, .sentinel, .pinned], laidTests := true, laidLooks := .later }
def FramingClosesUptoCardSaid : Prop := Claim7.holds Tryz.pinned (.plain (OpenSpec.upto framingClosesSpec)) framingClosesUptoCard

/-- THE SECOND FORM's CARD OF 'usherlaw12.FramingHosts'. -/
def framingHostsUptoCard : Claim7 := { stood := { row := framingHostsUptoRow, standIns := [], harness := (true, "52f13b752691479ee194229b37b8eedd3aaf90e55bebf793d2e66190647c3490"), looks := true }, kinds := [], alts := [], laidByText := true, laidKinds := [.data, .data, .data, .data, .sentinel, .sentinel, .pinned], laidTests := true, laidLooks := .later }
def FramingHostsUptoCardSaid : Prop := Claim7.holds Tryz.pinned (.plain (OpenSpec.upto framingHostsSpec)) framingHostsUptoCard

/-- THE SECOND FORM's CARD OF 'usherlaw12.FramingOf'. -/
def framingOfUptoCard : Claim7 := { stood := { row := framingOfUptoRow, standIns := [], harness := (true, "52f13b752691479ee194229b37b8eedd3aaf90e55bebf793d2e66190647c3490"), looks := true }, kinds := [], alts := [], laidByText := true, laidKinds := [.data, .data, .data, .data, .sentinel, .sentinel, .pinned], laidTests := true, laidLooks := .later }
def FramingOfUptoCardSaid : Prop := Claim7.holds Tryz.pinned (.plain (OpenSpec.upto framingOfSpec)) framingOfUptoCard

/-- THE SECOND FORM's CARD OF 'usherlaw12.FramingLengths'. -/
def framingLengthsUptoCard : Claim7 := { stood := { row := framingLengthsUptoRow, standIns := [], harness := (true, "52f13b752691479ee194229b37b8eedd3aaf90e55bebf793d2e66190647c3490"), looks := true }, kinds := [], alts := [], laidByText := true, laidKinds := [.data, .data, .data, .data, .sentinel, .sentinel, .pinned], laidTests := true, laidLooks := .later }
def FramingLengthsUptoCardSaid : Prop := Claim7.holds Tryz.pinned (.plain (OpenSpec.upto framingLengthsSpec)) framingLengthsUptoCard
end Rows
end Go.Proofs.YtfpojnijjpojlaaGreatDoor
