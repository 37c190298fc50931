/-
  DERIVED. GIVEN WITH THE SEED: THE CARDS: each row of YtoakidkcppinpaaDoorRows.lean that lists a variable, with what it lists TIED to the program's text (the seventh form; the later family's looks); each row that meets fmt, with fmt's text TOLD by the authors' own Lean function (tested against real Go, not proved from fmt's source: count such statements apart). THE CARD IS WHAT COUNTS. Prove the row's statement (the work); the ties are given (YtoakidkcppinpaaDoorTie.lean); close each card by the builder's one call (the guide's Derived/Test/ToyasCard.lean, 'card_holds'). Laid BY PROGRAM, IN A SANDBOX (cutbox-door.mjs). By AI agents, Wed Nov 11 2026. No macro, syntax, notation, axiom, sorry.
-/
import Derived.Test.YtoakidkcppinpaaDoorRows
import GoSem.ClaimSeven
namespace Go.Proofs.YtoakidkcppinpaaDoor
namespace Rows

/-- THE TIED CARD OF 'laws.FnExactFormatCode'. -/
def fnExactFormatCodeCard : Claim7 := { stood := { row := fnExactFormatCodeRow, standIns := [], harness := (true, "43ae022f9fb8f91a422d18f76ba032f74e8423db0d84f3de692a9dde0b4f4e9d"), looks := false }, kinds := [], alts := [], laidByText := true, laidKinds := [.data, .data, .data], laidTests := true, laidLooks := .later }
def FnExactFormatCodeCardSaid : Prop := Claim7.holds Tryd.pinned (.plain (OpenSpec.ofChange fnExactFormatCodeSpec)) fnExactFormatCodeCard

/-- THE TIED CARD OF 'laws.FnCodeSame'. -/
def fnCodeSameCard : Claim7 := { stood := { row := fnCodeSameRow, standIns := [], harness := (true, "43ae022f9fb8f91a422d18f76ba032f74e8423db0d84f3de692a9dde0b4f4e9d"), looks := false }, kinds := [], alts := [], laidByText := true, laidKinds := [.data, .data, .data], laidTests := true, laidLooks := .later }
def FnCodeSameCardSaid : Prop := Claim7.holds Tryd.pinned (.plain (OpenSpec.ofChange fnCodeSameSpec)) fnCodeSameCard

/-- THE SECOND FORM's CARD OF 'laws.FnExactFormatCode'. -/
def fnExactFormatCodeUptoCard : Claim7 := { stood := { row := fnExactFormatCodeUptoRow, standIns := [], harness := (true, "43ae022f9fb8f91a422d18f76ba032f74e8423db0d84f3de692a9dde0b4f4e9d"), looks := false }, kinds := [], alts := [], laidByText := true, laidKinds := [.data, .data, .data], laidTests := true, laidLooks := .later }
def FnExactFormatCodeUptoCardSaid : Prop := Claim7.holds Tryd.pinned (.plain (OpenSpec.upto fnExactFormatCodeSpec)) fnExactFormatCodeUptoCard

/-- THE SECOND FORM's CARD OF 'laws.FnCodeSame'. -/
def fnCodeSameUptoCard : Claim7 := { stood := { row := fnCodeSameUptoRow, standIns := [], harness := (true, "43ae022f9fb8f91a422d18f76ba032f74e8423db0d84f3de692a9dde0b4f4e9d"), looks := false }, kinds := [], alts := [], laidByText := true, laidKinds := [.data, .data, .data], laidTests := true, laidLooks := .later }
def FnCodeSameUptoCardSaid : Prop := Claim7.holds Tryd.pinned (.plain (OpenSpec.upto fnCodeSameSpec)) fnCodeSameUptoCard
end Rows
end Go.Proofs.YtoakidkcppinpaaDoor
