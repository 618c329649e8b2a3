/-
  DERIVED. GIVEN WITH THE SEED: THE CARDS: each row of YtffhddibgfaopaaDoorRows.lean that lists a variable, with what it lists TIED to the program's text (the seventh form; the later family's looks); each row that meets fmt, with fmt's text TOLD by the authors' own Lean function (tested against real Go, not proved from fmt's source: count such statements apart). THE CARD IS WHAT COUNTS. Prove the row's statement (the work); the ties are given (YtffhddibgfaopaaDoorTie.lean); close each card by the builder's one call (the guide's Derived/Test/ToyasCard.lean, 'card_holds'). Laid BY PROGRAM, IN A SANDBOX (cutbox-door.mjs). By AI agents, Wed Nov 11 2026. No macro, syntax, notation, axiom, sorry.
-/
import Derived.Test.YtffhddibgfaopaaDoorRows
import GoSem.ClaimSeven
namespace Go.Proofs.YtffhddibgfaopaaDoor
namespace Rows

/-- THE TIED CARD OF 'laws.FnExactFormatFloat'. -/
def fnExactFormatFloatCard : Claim7 := { stood := { row := fnExactFormatFloatRow, standIns := [], harness := (true, "e1b10de8fa6d690d93c898d1ec597c89e4b2ac7ec58272fe459e80c2dcb124bb"), looks := true }, kinds := [], alts := [], laidByText := true, laidKinds := [.data, .data, .data], laidTests := true, laidLooks := .later }
def FnExactFormatFloatCardSaid : Prop := Claim7.holds Tryd.pinned (.plain (OpenSpec.ofChange fnExactFormatFloatSpec)) fnExactFormatFloatCard

/-- THE TIED CARD OF 'laws.FnExactParseFloat'. -/
def fnExactParseFloatCard : Claim7 := { stood := { row := fnExactParseFloatRow, standIns := [], harness := (true, "e1b10de8fa6d690d93c898d1ec597c89e4b2ac7ec58272fe459e80c2dcb124bb"), looks := true }, kinds := [], alts := [], laidByText := true, laidKinds := [.data, .data, .data, .sentinel, .sentinel], laidTests := true, laidLooks := .later }
def FnExactParseFloatCardSaid : Prop := Claim7.holds Tryd.pinned (.plain (OpenSpec.ofChange fnExactParseFloatSpec)) fnExactParseFloatCard

/-- THE TIED CARD OF 'laws.FnFloats'. -/
def fnFloatsCard : Claim7 := { stood := { row := fnFloatsRow, standIns := [], harness := (true, "e1b10de8fa6d690d93c898d1ec597c89e4b2ac7ec58272fe459e80c2dcb124bb"), looks := true }, kinds := [], alts := [], laidByText := true, laidKinds := [.data, .data, .data, .sentinel, .sentinel], laidTests := true, laidLooks := .later }
def FnFloatsCardSaid : Prop := Claim7.holds Tryd.pinned (.plain (OpenSpec.ofChange fnFloatsSpec)) fnFloatsCard

/-- THE SECOND FORM's CARD OF 'laws.FnExactFormatFloat'. -/
def fnExactFormatFloatUptoCard : Claim7 := { stood := { row := fnExactFormatFloatUptoRow, standIns := [], harness := (true, "e1b10de8fa6d690d93c898d1ec597c89e4b2ac7ec58272fe459e80c2dcb124bb"), looks := true }, kinds := [], alts := [], laidByText := true, laidKinds := [.data, .data, .data], laidTests := true, laidLooks := .later }
def FnExactFormatFloatUptoCardSaid : Prop := Claim7.holds Tryd.pinned (.plain (OpenSpec.upto fnExactFormatFloatSpec)) fnExactFormatFloatUptoCard

/-- THE SECOND FORM's CARD OF 'laws.FnExactParseFloat'. -/
def fnExactParseFloatUptoCard : Claim7 := { stood := { row := fnExactParseFloatUptoRow, standIns := [], harness := (true, "e1b10de8fa6d690d93c898d1ec597c89e4b2ac7ec58272fe459e80c2dcb124bb"), looks := true }, kinds := [], alts := [], laidByText := true, laidKinds := [.data, .data, .data, .sentinel, .sentinel], laidTests := true, laidLooks := .later }
def FnExactParseFloatUptoCardSaid : Prop := Claim7.holds Tryd.pinned (.plain (OpenSpec.upto fnExactParseFloatSpec)) fnExactParseFloatUptoCard

/-- THE SECOND FORM's CARD OF 'laws.FnFloats'. -/
def fnFloatsUptoCard : Claim7 := { stood := { row := fnFloatsUptoRow, standIns := [], harness := (true, "e1b10de8fa6d690d93c898d1ec597c89e4b2ac7ec58272fe459e80c2dcb124bb"), looks := true }, kinds := [], alts := [], laidByText := true, laidKinds := [.data, .data, .data, .sentinel, .sentinel], laidTests := true, laidLooks := .later }
def FnFloatsUptoCardSaid : Prop := Claim7.holds Tryd.pinned (.plain (OpenSpec.upto fnFloatsSpec)) fnFloatsUptoCard
end Rows
end Go.Proofs.YtffhddibgfaopaaDoor
