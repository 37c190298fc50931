/-
  DERIVED. GIVEN WITH THE SEED: THE CARDS: each row of YtfkhahkclgejnaaGreatDoorRows.lean that lists a variable, with what it lists TIED to the program's text (the seventh form; the later family's looks); each row that meets fmt, with fmt's text TOLD by the authors' own Lean function (tested against real Go, not proved from fmt's source: count such statements apart). THE CARD IS WHAT COUNTS. Prove the row's statement (the work); the ties are given (YtfkhahkclgejnaaGreatDoorTie.lean); close each card by the builder's one call (the guide's Derived/Test/ToyasCard.lean, 'card_holds'). Laid BY PROGRAM, IN A SANDBOX (cutbox-door.mjs). By AI agents, Wed Nov 11 2026. No macro, syntax, notation, axiom, sorry.
-/
import Derived.Test.YtfkhahkclgejnaaGreatDoorRows
import GoSem.ClaimSeven
namespace Go.Proofs.YtfkhahkclgejnaaGreatDoor
namespace Rows

/-- THE TIED CARD OF 'laws.FnExactParseCode'. -/
def fnExactParseCodeCard : Claim7 := { stood := { row := fnExactParseCodeRow, standIns := [], harness := (true, "4c60f3764f75a60517f57771e1b7e76245e9bf84304efc32fa29d6da0bf83b2a"), looks := true }, kinds := [], alts := [], laidByText := true, laidKinds := [.data, .data, .data, .data, .sentinel, .sentinel, .pinned], laidTests := true, laidLooks := .later }
def FnExactParseCodeCardSaid : Prop := Claim7.holds Tryz.pinned (.plain (OpenSpec.ofChange fnExactParseCodeSpec)) fnExactParseCodeCard

/-- THE TIED CARD OF 'laws.FnCodeText'. -/
def fnCodeTextCard : Claim7 := { stood := { row := fnCodeTextRow, standIns := [], harness := (true, "4c60f3764f75a60517f57771e1b7e76245e9bf84304efc32fa29d6da0bf83b2a"), looks := true }, kinds := [], alts := [], laidByText := true, laidKinds := [.data, .data, .data, .data, .sentinel, .sentinel, .pinned], laidTests := true, laidLooks := .later }
def FnCodeTextCardSaid : Prop := Claim7.holds Tryz.pinned (.plain (OpenSpec.ofChange fnCodeTextSpec)) fnCodeTextCard

/-- THE SECOND FORM's CARD OF 'laws.FnExactParseCode'. -/
def fnExactParseCodeUptoCard : Claim7 := { stood := { row := fnExactParseCodeUptoRow, standIns := [], harness := (true, "4c60f3764f75a60517f57771e1b7e76245e9bf84304efc32fa29d6da0bf83b2a"), looks := true }, kinds := [], alts := [], laidByText := true, laidKinds := [.data, .data, .data, .data, .sentinel, .sentinel, .pinned], laidTests := true, laidLooks := .later }
def FnExactParseCodeUptoCardSaid : Prop := Claim7.holds Tryz.pinned (.plain (OpenSpec.upto fnExactParseCodeSpec)) fnExactParseCodeUptoCard

/-- THE SECOND FORM's CARD OF 'laws.FnCodeText'. -/
def fnCodeTextUptoCard : Claim7 := { stood := { row := fnCodeTextUptoRow, standIns := [], harness := (true, "4c60f3764f75a60517f57771e1b7e76245e9bf84304efc32fa29d6da0bf83b2a"), looks := true }, kinds := [], alts := [], laidByText := true, laidKinds := [.data, .data, .data, .data, .sentinel, .sentinel, .pinned], laidTests := true, laidLooks := .later }
def FnCodeTextUptoCardSaid : Prop := Claim7.holds Tryz.pinned (.plain (OpenSpec.upto fnCodeTextSpec)) fnCodeTextUptoCard
end Rows
end Go.Proofs.YtfkhahkclgejnaaGreatDoor
