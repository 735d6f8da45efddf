/-
  DERIVED. GIVEN WITH THE SEED: THE CARDS: each row of YtfpojnijjpojlaaDoorRows.lean that lists a variable, with what it lists TIED to the program's text (the seventh form; the later family's looks); each row that meets fmt, with fmt's text TOLD by the authors' own Lean function (tested against real Go, not proved from fmt's source: count such statements apart). THE CARD IS WHAT COUNTS. Prove the row's statement (the work); the ties are given (YtfpojnijjpojlaaDoorTie.lean); close each card by the builder's one call (the guide's Derived/Test/ToyasCard.lean, 'card_holds'). Laid BY PROGRAM, IN A SANDBOX (cutbox-door.mjs). By AI agents, Wed Nov 11 2026. No macro, syntax, notation, axiom, sorry.
-/
import Derived.Test.YtfpojnijjpojlaaDoorRows
import GoSem.ClaimSeven
namespace Go.Proofs.YtfpojnijjpojlaaDoor
namespace Rows

/-- THE TIED CARD OF 'usherlaw11.TargetDecodes'. -/
def targetDecodesCard : Claim7 := { stood := { row := targetDecodesRow, standIns := [], harness := (true, "1e4c5b42def6735f77787a0f67b487c19833091c8580de0b7e92fb41f62178b1"), looks := true }, kinds := [], alts := [], laidByText := true, laidKinds := [.data, .data, .data, .data, .sentinel, .sentinel, .pinned], laidTests := true, laidLooks := .later }
def TargetDecodesCardSaid : Prop := Claim7.holds Tryd.pinned (.plain (OpenSpec.ofChange targetDecodesSpec)) targetDecodesCard

/-- THE TIED CARD OF 'usherlaw11.TargetCleans'. -/
def targetCleansCard : Claim7 := { stood := { row := targetCleansRow, standIns := [], harness := (true, "1e4c5b42def6735f77787a0f67b487c19833091c8580de0b7e92fb41f62178b1"), looks := true }, kinds := [], alts := [], laidByText := true, laidKinds := [.data, .data, .data, .data, .sentinel, .sentinel, .pinned], laidTests := true, laidLooks := .later }
def TargetCleansCardSaid : Prop := Claim7.holds Tryd.pinned (.plain (OpenSpec.ofChange targetCleansSpec)) targetCleansCard

/-- THE TIED CARD OF 'usherlaw11.TargetHosts'. -/
def targetHostsCard : Claim7 := { stood := { row := targetHostsRow, standIns := [], harness := (true, "1e4c5b42def6735f77787a0f67b487c19833091c8580de0b7e92fb41f62178b1"), looks := true }, kinds := [], alts := [], laidByText := true, laidKinds := [.data, .data, .data, .data, .sentinel, .sentinel, .pinned], laidTests := true, laidLooks := .later }
def TargetHostsCardSaid : Prop := Claim7.holds Tryd.pinned (.plain (OpenSpec.ofChange targetHostsSpec)) targetHostsCard

/-- THE TIED CARD OF 'usherlaw11.TargetUp'. -/
def targetUpCard : Claim7 := { stood := { row := targetUpRow, standIns := [], harness := (true, "1e4c5b42def6735f77787a0f67b487c19833091c8580de0b7e92fb41f62178b1"), looks := true }, kinds := [], alts := [], laidByText := true, laidKinds := [.data, .data, .data, .data, .sentinel, .sentinel, .pinned], laidTests := true, laidLooks := .later }
def TargetUpCardSaid : Prop := Claim7.holds Tryd.pinned (.plain (OpenSpec.ofChange targetUpSpec)) targetUpCard

/-- THE TIED CARD OF 'usherlaw11.TargetWhole'. -/
def targetWholeCard : Claim7 := { stood := { row := targetWholeRow, standIns := [], harness := (true, "1e4c5b42def6735f77787a0f67b487c19833091c8580de0b7e92fb41f62178b1"), looks := true }, kinds := [], alts := [], laidByText := true, laidKinds := [.data, .data, .data, .data, .sentinel, .sentinel, .pinned], laidTests := true, laidLooks := .later }
def TargetWholeCardSaid : Prop := Claim7.holds Tryd.pinned (.plain (OpenSpec.ofChange targetWholeSpec)) targetWholeCard

/-- THE TIED CARD OF 'usherlaw11.TargetPercents'. -/
def targetPercentsCard : Claim7 := { stood := { row := targetPercentsRow, standIns := [], harness := (true, "1e4c5b42def6735f77787a0f67b487c19833091c8580de0b7e92fb41f62178b1"), looks := true }, kinds := [], alts := [], laidByText := true, laidKinds := [.data, .data, .data, .data, .sentinel, .sentinel, .pinned], laidTests := true, laidLooks := .later }
def TargetPercentsCardSaid : Prop := Claim7.holds Tryd.pinned (.plain (OpenSpec.ofChange targetPercentsSpec)) targetPercentsCard

/-- THE SECOND FORM's CARD OF 'usherlaw11.TargetDecodes'. -/
def targetDecodesUptoCard : Claim7 := { stood := { row := targetDecodesUptoRow, standIns := [], harness := (true, "1e4c5b42def6735f77787a0f67b487c19833091c8580de0b7e92fb41f62178b1"), looks := true }, kinds := [], alts := [], laidByText := true, laidKinds := [.data, .data, .data, .data, .sentinel, .sentinel, .pinned], laidTests := true, laidLooks := .later }
def TargetDecodesUptoCardSaid : Prop := Claim7.holds Tryd.pinned (.plain (OpenSpec.upto targetDecodesSpec)) targetDecodesUptoCard

/-- THE SECOND FORM's CARD OF 'usherlaw11.TargetCleans'. -/
def targetCleansUptoCard : Claim7 := { stood := { row := targetCleansUptoRow, standIns := [], harness := (true, "1e4c5b42def6735f77787a0f67b487c19833091c8580de0b7e92fb41f62178b1"), looks := true }, kinds := [], alts := [], laidByText := true, laidKinds := [.data, .data, .data, .data, .sentinel, .sentinel, .pinned], laidTests := true, laidLooks := .later }
def TargetCleansUptoCardSaid : Prop := Claim7.holds Tryd.pinned (.plain (OpenSpec.upto targetCleansSpec)) targetCleansUptoCard

/-- THE SECOND FORM's CARD OF 'usherlaw11.TargetHosts'. -/
def targetHostsUptoCard : Claim7 := { stood := { row := targetHostsUptoRow, standIns := [], harness := (true, "1e4c5b42def6735f77787a0f67b487c19833091c8580de0b7e92fb41f62178b1"), looks := true }, kinds := [], alts := [], laidByText := true, laidKinds := [.data, .data, .data, .data, .sentinel, .sentinel, .pinned], laidTests := true, laidLooks := .later }
def TargetHostsUptoCardSaid : Prop := Claim7.holds Tryd.pinned (.plain (OpenSpec.upto targetHostsSpec)) targetHostsUptoCard

/-- THE SECOND FORM's CARD OF 'usherlaw11.TargetUp'. -/
def targetUpUptoCard : Claim7 := { stood := { row := targetUpUptoRow, standIns := [], harness := (true, "1e4c5b42def6735f77787a0f67b487c19833091c8580de0b7e92fb41f62178b1"), looks := true }, kinds := [], alts := [], laidByText := true, laidKinds := [.data, .data, .data, .data, .sentinel, .sentinel, .pinned], laidTests := true, laidLooks := .later }
def TargetUpUptoCardSaid : Prop := Claim7.holds Tryd.pinned (.plain (OpenSpec.upto targetUpSpec)) targetUpUptoCard

/-- THE SECOND FORM's CARD OF 'usherlaw11.TargetWhole'. -/
def targetWholeUptoCard : Claim7 := { stood := { row := targetWholeUptoRow, standIns := [], harness := (true, "1e4c5b42def6735f77787a0f67b487c19833091c8580de0b7e92fb41f62178b1"), looks := true }, kinds := [], alts := [], laidByText := true, laidKinds := [.data, .data, .data, .data, .sentinel, .sentinel, .pinned], laidTests := true, laidLooks := .later }
def TargetWholeUptoCardSaid : Prop := Claim7.holds Tryd.pinned (.plain (OpenSpec.upto targetWholeSpec)) targetWholeUptoCard

/-- THE SECOND FORM's CARD OF 'usherlaw11.TargetPercents'. -/
def targetPercentsUptoCard : Claim7 := { stood := { row := targetPercentsUptoRow, standIns := [], harness := (true, "1e4c5b42def6735f77787a0f67b487c19833091c8580de0b7e92fb41f62178b1"), looks := true }, kinds := [], alts := [], laidByText := true, laidKinds := [.data, .data, .data, .data, .sentinel, .sentinel, .pinned], laidTests := true, laidLooks := .later }
def TargetPercentsUptoCardSaid : Prop := Claim7.holds Tryd.pinned (.plain (OpenSpec.upto targetPercentsSpec)) targetPercentsUptoCard
end Rows
end Go.Proofs.YtfpojnijjpojlaaDoor
