/-
  DERIVED. GIVEN WITH THE SEED: THE CARDS: each row of YteikfilflgfhnaaDoorRows.lean that lists a variable, with what it lists TIED to the program's text (the seventh form; the later family's looks); each row that meets fmt, with fmt's text TOLD by the authors' own Lean function (tested against real Go, not proved from fmt's source: count such statements apart). THE CARD IS WHAT COUNTS. Prove the row's statement (the work); the ties are given (YteikfilflgfhnaaDoorTie.lean); close each card by the builder's one call (the guide's Derived/Test/ToyasCard.lean, 'card_holds'). Laid BY PROGRAM, IN A SANDBOX (cutbox-door.mjs). By AI agents, Wed Nov 11 2026. No macro, syntax, notation, axiom, sorry.
-/
import Derived.Test.YteikfilflgfhnaaDoorRows
import GoSem.ClaimSeven
namespace Go.Proofs.YteikfilflgfhnaaDoor
namespace Rows

/-- THE TIED CARD OF 'usherlaw26.ClientPlain'. -/
def clientPlainCard : Claim7 := { stood := { row := clientPlainRow, standIns := [], harness := (true, "16e4bedb4aa90b3a6a5a415abb6fcba6b60131452b06d80a8602b8895ac41962"), looks := true }, kinds := [], alts := [], laidByText := true, laidKinds := [.data, .data, .data], laidTests := true, laidLooks := .later }
def ClientPlainCardSaid : Prop := Claim7.holds Tryd.pinned (.plain (OpenSpec.ofChange clientPlainSpec)) clientPlainCard

/-- THE TIED CARD OF 'usherlaw17.StatusSays'. -/
def statusSaysCard : Claim7 := { stood := { row := statusSaysRow, standIns := [], harness := (true, "16e4bedb4aa90b3a6a5a415abb6fcba6b60131452b06d80a8602b8895ac41962"), looks := true }, kinds := [], alts := [], laidByText := true, laidKinds := [.data, .data, .data], laidTests := true, laidLooks := .later }
def StatusSaysCardSaid : Prop := Claim7.holds Tryd.pinned (.plain (OpenSpec.ofChange statusSaysSpec)) statusSaysCard

/-- THE TIED CARD OF 'usherlaw17.StatusAll'. -/
def statusAllCard : Claim7 := { stood := { row := statusAllRow, standIns := [], harness := (true, "16e4bedb4aa90b3a6a5a415abb6fcba6b60131452b06d80a8602b8895ac41962"), looks := true }, kinds := [], alts := [], laidByText := true, laidKinds := [.data, .data, .data], laidTests := true, laidLooks := .later }
def StatusAllCardSaid : Prop := Claim7.holds Tryd.pinned (.plain (OpenSpec.ofChange statusAllSpec)) statusAllCard

/-- THE TIED CARD OF 'usherlaw17.StatusCanned'. -/
def statusCannedCard : Claim7 := { stood := { row := statusCannedRow, standIns := [], harness := (true, "16e4bedb4aa90b3a6a5a415abb6fcba6b60131452b06d80a8602b8895ac41962"), looks := true }, kinds := [], alts := [], laidByText := true, laidKinds := [.data, .data, .data], laidTests := true, laidLooks := .later }
def StatusCannedCardSaid : Prop := Claim7.holds Tryd.pinned (.plain (OpenSpec.ofChange statusCannedSpec)) statusCannedCard

/-- THE TIED CARD OF 'usherlaw1.AsciiSame'. -/
def asciiSameCard : Claim7 := { stood := { row := asciiSameRow, standIns := [], harness := (true, "16e4bedb4aa90b3a6a5a415abb6fcba6b60131452b06d80a8602b8895ac41962"), looks := true }, kinds := [], alts := [], laidByText := true, laidKinds := [.data, .data, .data, .data, .sentinel, .sentinel, .pinned], laidTests := true, laidLooks := .later }
def AsciiSameCardSaid : Prop := Claim7.holds Tryd.pinned (.plain (OpenSpec.ofChange asciiSameSpec)) asciiSameCard

/-- THE TIED CARD OF 'usherlaw1.AsciiJoins'. -/
def asciiJoinsCard : Claim7 := { stood := { row := asciiJoinsRow, standIns := [], harness := (true, "16e4bedb4aa90b3a6a5a415abb6fcba6b60131452b06d80a8602b8895ac41962"), looks := true }, kinds := [], alts := [], laidByText := true, laidKinds := [.data, .data, .data, .data, .sentinel, .sentinel, .pinned], laidTests := true, laidLooks := .later }
def AsciiJoinsCardSaid : Prop := Claim7.holds Tryd.pinned (.plain (OpenSpec.ofChange asciiJoinsSpec)) asciiJoinsCard

/-- THE TIED CARD OF 'usherlaw1.AsciiTrims'. -/
def asciiTrimsCard : Claim7 := { stood := { row := asciiTrimsRow, standIns := [], harness := (true, "16e4bedb4aa90b3a6a5a415abb6fcba6b60131452b06d80a8602b8895ac41962"), looks := true }, kinds := [], alts := [], laidByText := true, laidKinds := [.data, .data, .data, .data, .sentinel, .sentinel, .pinned], laidTests := true, laidLooks := .later }
def AsciiTrimsCardSaid : Prop := Claim7.holds Tryd.pinned (.plain (OpenSpec.ofChange asciiTrimsSpec)) asciiTrimsCard

/-- THE TIED CARD OF 'usherlaw1.AsciiParts'. -/
def asciiPartsCard : Claim7 := { stood := { row := asciiPartsRow, standIns := [], harness := (true, "16e4bedb4aa90b3a6a5a415abb6fcba6b60131452b06d80a8602b8895ac41962"), looks := true }, kinds := [], alts := [], laidByText := true, laidKinds := [.data, .data, .data, .data, .sentinel, .sentinel, .pinned], laidTests := true, laidLooks := .later }
def AsciiPartsCardSaid : Prop := Claim7.holds Tryd.pinned (.plain (OpenSpec.ofChange asciiPartsSpec)) asciiPartsCard

/-- THE TIED CARD OF 'usherlaw1.AsciiBytes'. -/
def asciiBytesCard : Claim7 := { stood := { row := asciiBytesRow, standIns := [], harness := (true, "16e4bedb4aa90b3a6a5a415abb6fcba6b60131452b06d80a8602b8895ac41962"), looks := true }, kinds := [], alts := [], laidByText := true, laidKinds := [.data, .data, .data, .data, .sentinel, .sentinel, .pinned], laidTests := true, laidLooks := .later }
def AsciiBytesCardSaid : Prop := Claim7.holds Tryd.pinned (.plain (OpenSpec.ofChange asciiBytesSpec)) asciiBytesCard

/-- THE TIED CARD OF 'usherlaw1.AsciiWords'. -/
def asciiWordsCard : Claim7 := { stood := { row := asciiWordsRow, standIns := [], harness := (true, "16e4bedb4aa90b3a6a5a415abb6fcba6b60131452b06d80a8602b8895ac41962"), looks := true }, kinds := [], alts := [], laidByText := true, laidKinds := [.data, .data, .data, .data, .sentinel, .sentinel, .pinned], laidTests := true, laidLooks := .later }
def AsciiWordsCardSaid : Prop := Claim7.holds Tryd.pinned (.plain (OpenSpec.ofChange asciiWordsSpec)) asciiWordsCard

/-- THE TIED CARD OF 'usherlaw1.AsciiNumbers'. -/
def asciiNumbersCard : Claim7 := { stood := { row := asciiNumbersRow, standIns := [], harness := (true, "16e4bedb4aa90b3a6a5a415abb6fcba6b60131452b06d80a8602b8895ac41962"), looks := true }, kinds := [], alts := [], laidByText := true, laidKinds := [.data, .data, .data, .data, .sentinel, .sentinel, .pinned], laidTests := true, laidLooks := .later }
def AsciiNumbersCardSaid : Prop := Claim7.holds Tryd.pinned (.plain (OpenSpec.ofChange asciiNumbersSpec)) asciiNumbersCard

/-- THE TIED CARD OF 'usherlaw1.AsciiBack'. -/
def asciiBackCard : Claim7 := { stood := { row := asciiBackRow, standIns := [], harness := (true, "16e4bedb4aa90b3a6a5a415abb6fcba6b60131452b06d80a8602b8895ac41962"), looks := true }, kinds := [], alts := [], laidByText := true, laidKinds := [.data, .data, .data, .data, .sentinel, .sentinel, .pinned], laidTests := true, laidLooks := .later }
def AsciiBackCardSaid : Prop := Claim7.holds Tryd.pinned (.plain (OpenSpec.ofChange asciiBackSpec)) asciiBackCard

/-- THE SECOND FORM's CARD OF 'usherlaw26.ClientPlain'. -/
def clientPlainUptoCard : Claim7 := { stood := { row := clientPlainUptoRow, standIns := [], harness := (true, "16e4bedb4aa90b3a6a5a415abb6fcba6b60131452b06d80a8602b8895ac41962"), looks := true }, kinds := [], alts := [], laidByText := true, laidKinds := [.data, .data, .data], laidTests := true, laidLooks := .later }
def ClientPlainUptoCardSaid : Prop := Claim7.holds Tryd.pinned (.plain (OpenSpec.upto clientPlainSpec)) clientPlainUptoCard

/-- THE SECOND FORM's CARD OF 'usherlaw17.StatusSays'. -/
def statusSaysUptoCard : Claim7 := { stood := { row := statusSaysUptoRow, standIns := [], harness := (true, "16e4bedb4aa90b3a6a5a415abb6fcba6b60131452b06d80a8602b8895ac41962"), looks := true }, kinds := [], alts := [], laidByText := true, laidKinds := [.data, .data, .data], laidTests := true, laidLooks := .later }
def StatusSaysUptoCardSaid : Prop := Claim7.holds Tryd.pinned (.plain (OpenSpec.upto statusSaysSpec)) statusSaysUptoCard

/-- THE SECOND FORM's CARD OF 'usherlaw17.StatusAll'. -/
def statusAllUptoCard : Claim7 := { stood := { row := statusAllUptoRow, standIns := [], harness := (true, "16e4bedb4aa90b3a6a5a415abb6fcba6b60131452b06d80a8602b8895ac41962"), looks := true }, kinds := [], alts := [], laidByText := true, laidKinds := [.data, .data, .data], laidTests := true, laidLooks := .later }
def StatusAllUptoCardSaid : Prop := Claim7.holds Tryd.pinned (.plain (OpenSpec.upto statusAllSpec)) statusAllUptoCard

/-- THE SECOND FORM's CARD OF 'usherlaw17.StatusCanned'. -/
def statusCannedUptoCard : Claim7 := { stood := { row := statusCannedUptoRow, standIns := [], harness := (true, "16e4bedb4aa90b3a6a5a415abb6fcba6b60131452b06d80a8602b8895ac41962"), looks := true }, kinds := [], alts := [], laidByText := true, laidKinds := [.data, .data, .data], laidTests := true, laidLooks := .later }
def StatusCannedUptoCardSaid : Prop := Claim7.holds Tryd.pinned (.plain (OpenSpec.upto statusCannedSpec)) statusCannedUptoCard

/-- THE SECOND FORM's CARD OF 'usherlaw1.AsciiSame'. -/
def asciiSameUptoCard : Claim7 := { stood := { row := asciiSameUptoRow, standIns := [], harness := (true, "16e4bedb4aa90b3a6a5a415abb6fcba6b60131452b06d80a8602b8895ac41962"), looks := true }, kinds := [], alts := [], laidByText := true, laidKinds := [.data, .data, .data, .data, .sentinel, .sentinel, .pinned], laidTests := true, laidLooks := .later }
def AsciiSameUptoCardSaid : Prop := Claim7.holds Tryd.pinned (.plain (OpenSpec.upto asciiSameSpec)) asciiSameUptoCard

/-- THE SECOND FORM's CARD OF 'usherlaw1.AsciiJoins'. -/
def asciiJoinsUptoCard : Claim7 := { stood := { row := asciiJoinsUptoRow, standIns := [], harness := (true, "16e4bedb4aa90b3a6a5a415abb6fcba6b60131452b06d80a8602b8895ac41962"), looks := true }, kinds := [], alts := [], laidByText := true, laidKinds := [.data, .data, .data, .data, .sentinel, .sentinel, .pinned], laidTests := true, laidLooks := .later }
def AsciiJoinsUptoCardSaid : Prop := Claim7.holds Tryd.pinned (.plain (OpenSpec.upto asciiJoinsSpec)) asciiJoinsUptoCard

/-- THE SECOND FORM's CARD OF 'usherlaw1.AsciiTrims'. -/
def asciiTrimsUptoCard : Claim7 := { stood := { row := asciiTrimsUptoRow, standIns := [], harness := (true, "16e4bedb4aa90b3a6a5a415abb6fcba6b60131452b06d80a8602b8895ac41962"), looks := true }, kinds := [], alts := [], laidByText := true, laidKinds := [.data, .data, .data, .data, .sentinel, .sentinel, .pinned], laidTests := true, laidLooks := .later }
def AsciiTrimsUptoCardSaid : Prop := Claim7.holds Tryd.pinned (.plain (OpenSpec.upto asciiTrimsSpec)) asciiTrimsUptoCard

/-- THE SECOND FORM's CARD OF 'usherlaw1.AsciiParts'. -/
def asciiPartsUptoCard : Claim7 := { stood := { row := asciiPartsUptoRow, standIns := [], harness := (true, "16e4bedb4aa90b3a6a5a415abb6fcba6b60131452b06d80a8602b8895ac41962"), looks := true }, kinds := [], alts := [], laidByText := true, laidKinds := [.data, .data, .data, .data, .sentinel, .sentinel, .pinned], laidTests := true, laidLooks := .later }
def AsciiPartsUptoCardSaid : Prop := Claim7.holds Tryd.pinned (.plain (OpenSpec.upto asciiPartsSpec)) asciiPartsUptoCard

/-- THE SECOND FORM's CARD OF 'usherlaw1.AsciiBytes'. -/
def asciiBytesUptoCard : Claim7 := { stood := { row := asciiBytesUptoRow, standIns := [], harness := (true, "16e4bedb4aa90b3a6a5a415abb6fcba6b60131452b06d80a8602b8895ac41962"), looks := true }, kinds := [], alts := [], laidByText := true, laidKinds := [.data, .data, .data, .data, .sentinel, .sentinel, .pinned], laidTests := true, laidLooks := .later }
def AsciiBytesUptoCardSaid : Prop := Claim7.holds Tryd.pinned (.plain (OpenSpec.upto asciiBytesSpec)) asciiBytesUptoCard

/-- THE SECOND FORM's CARD OF 'usherlaw1.AsciiWords'. -/
def asciiWordsUptoCard : Claim7 := { stood := { row := asciiWordsUptoRow, standIns := [], harness := (true, "16e4bedb4aa90b3a6a5a415abb6fcba6b60131452b06d80a8602b8895ac41962"), looks := true }, kinds := [], alts := [], laidByText := true, laidKinds := [.data, .data, .data, .data, .sentinel, .sentinel, .pinned], laidTests := true, laidLooks := .later }
def AsciiWordsUptoCardSaid : Prop := Claim7.holds Tryd.pinned (.plain (OpenSpec.upto asciiWordsSpec)) asciiWordsUptoCard

/-- THE SECOND FORM's CARD OF 'usherlaw1.AsciiNumbers'. -/
def asciiNumbersUptoCard : Claim7 := { stood := { row := asciiNumbersUptoRow, standIns := [], harness := (true, "16e4bedb4aa90b3a6a5a415abb6fcba6b60131452b06d80a8602b8895ac41962"), looks := true }, kinds := [], alts := [], laidByText := true, laidKinds := [.data, .data, .data, .data, .sentinel, .sentinel, .pinned], laidTests := true, laidLooks := .later }
def AsciiNumbersUptoCardSaid : Prop := Claim7.holds Tryd.pinned (.plain (OpenSpec.upto asciiNumbersSpec)) asciiNumbersUptoCard

/-- THE SECOND FORM's CARD OF 'usherlaw1.AsciiBack'. -/
def asciiBackUptoCard : Claim7 := { stood := { row := asciiBackUptoRow, standIns := [], harness := (true, "16e4bedb4aa90b3a6a5a415abb6fcba6b60131452b06d80a8602b8895ac41962"), looks := true }, kinds := [], alts := [], laidByText := true, laidKinds := [.data, .data, .data, .data, .sentinel, .sentinel, .pinned], laidTests := true, laidLooks := .later }
def AsciiBackUptoCardSaid : Prop := Claim7.holds Tryd.pinned (.plain (OpenSpec.upto asciiBackSpec)) asciiBackUptoCard
end Rows
end Go.Proofs.YteikfilflgfhnaaDoor
