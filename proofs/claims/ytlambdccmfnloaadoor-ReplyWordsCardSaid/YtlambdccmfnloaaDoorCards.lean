/-
  DERIVED. GIVEN WITH THE SEED: THE CARDS: each row of YtlambdccmfnloaaDoorRows.lean that lists a variable, with what it lists TIED to the program's text (the seventh form; the later family's looks); each row that meets fmt, with fmt's text TOLD by the authors' own Lean function (tested against real Go, not proved from fmt's source: count such statements apart). THE CARD IS WHAT COUNTS. Prove the row's statement (the work); the ties are given (YtlambdccmfnloaaDoorTie.lean); close each card by the builder's one call (the guide's Derived/Test/ToyasCard.lean, 'card_holds'). Laid BY PROGRAM, IN A SANDBOX (cutbox-door.mjs). By AI agents, Wed Nov 11 2026. No macro, syntax, notation, axiom, sorry.
-/
import Derived.Test.YtlambdccmfnloaaDoorRows
import GoSem.ClaimSeven
namespace Go.Proofs.YtlambdccmfnloaaDoor
namespace Rows

/-- THE TIED CARD OF 'usherlaw18.ReplyHeads'. -/
def replyHeadsCard : Claim7 := { stood := { row := replyHeadsRow, standIns := [], harness := (true, "4300aeb6aa6747c31f8643c421a2ec1c352f8ac830ca12789216a380705c132f"), looks := false }, kinds := [], alts := [], laidByText := true, laidKinds := [.data, .data, .data, .data, .pinned], laidTests := true, laidLooks := .later }
def ReplyHeadsCardSaid : Prop := Claim7.holds Tryd.pinned (.plain (OpenSpec.ofChange replyHeadsSpec)) replyHeadsCard

/-- THE TIED CARD OF 'usherlaw18.ReplyWords'. -/
def replyWordsCard : Claim7 := { stood := { row := replyWordsRow, standIns := [], harness := (true, "4300aeb6aa6747c31f8643c421a2ec1c352f8ac830ca12789216a380705c132f"), looks := false }, kinds := [], alts := [], laidByText := true, laidKinds := [.data, .data, .data, .data, .pinned], laidTests := true, laidLooks := .later }
def ReplyWordsCardSaid : Prop := Claim7.holds Tryd.pinned (.plain (OpenSpec.ofChange replyWordsSpec)) replyWordsCard

/-- THE SECOND FORM's CARD OF 'usherlaw18.ReplyHeads'. -/
def replyHeadsUptoCard : Claim7 := { stood := { row := replyHeadsUptoRow, standIns := [], harness := (true, "4300aeb6aa6747c31f8643c421a2ec1c352f8ac830ca12789216a380705c132f"), looks := false }, kinds := [], alts := [], laidByText := true, laidKinds := [.data, .data, .data, .data, .pinned], laidTests := true, laidLooks := .later }
def ReplyHeadsUptoCardSaid : Prop := Claim7.holds Tryd.pinned (.plain (OpenSpec.upto replyHeadsSpec)) replyHeadsUptoCard

/-- THE SECOND FORM's CARD OF 'usherlaw18.ReplyWords'. -/
def replyWordsUptoCard : Claim7 := { stood := { row := replyWordsUptoRow, standIns := [], harness := (true, "4300aeb6aa6747c31f8643c421a2ec1c352f8ac830ca12789216a380705c132f"), looks := false }, kinds := [], alts := [], laidByText := true, laidKinds := [.data, .data, .data, .data, .pinned], laidTests := true, laidLooks := .later }
def ReplyWordsUptoCardSaid : Prop := Claim7.holds Tryd.pinned (.plain (OpenSpec.upto replyWordsSpec)) replyWordsUptoCard
end Rows
end Go.Proofs.YtlambdccmfnloaaDoor
