/-
  DERIVED. GIVEN WITH THE SEED: THE CARDS: each row of YtknhncpmijgdfaaDoorRows.lean that lists a variable, with what it lists TIED to the program's text (the seventh form; the later family's looks); each row that meets fmt, with fmt's text TOLD by the authors' own Lean function (tested against real Go, not proved from fmt's source: count such statements apart). THE CARD IS WHAT COUNTS. Prove the row's statement (the work); the ties are given (YtknhncpmijgdfaaDoorTie.lean); close each card by the builder's one call (the guide's Derived/Test/ToyasCard.lean, 'card_holds'). Laid BY PROGRAM, IN A SANDBOX (cutbox-door.mjs). By AI agents, Wed Nov 11 2026. No macro, syntax, notation, axiom, sorry.
-/
import Derived.Test.YtknhncpmijgdfaaDoorRows
import GoSem.ClaimSeven
namespace Go.Proofs.YtknhncpmijgdfaaDoor
namespace Rows

/-- THE TIED CARD OF 'laws.FnExactPartsOf'. -/
def fnExactPartsOfCard : Claim7 := { stood := { row := fnExactPartsOfRow, standIns := [], harness := (true, "d547ad19ee95dfe1ec89b66b866c7270606ca5f8800c0b9b34acb0707628ccf8"), looks := false }, kinds := [], alts := [], laidByText := true, laidKinds := [.data], laidTests := true, laidLooks := .later }
def FnExactPartsOfCardSaid : Prop := Claim7.holds Tryd.pinned (.plain (OpenSpec.ofChange fnExactPartsOfSpec)) fnExactPartsOfCard

/-- THE TIED CARD OF 'laws.FnExactWriteBits'. -/
def fnExactWriteBitsCard : Claim7 := { stood := { row := fnExactWriteBitsRow, standIns := [], harness := (true, "d547ad19ee95dfe1ec89b66b866c7270606ca5f8800c0b9b34acb0707628ccf8"), looks := false }, kinds := [], alts := [], laidByText := true, laidKinds := [.data, .data, .data], laidTests := true, laidLooks := .later }
def FnExactWriteBitsCardSaid : Prop := Claim7.holds Tryd.pinned (.plain (OpenSpec.ofChange fnExactWriteBitsSpec)) fnExactWriteBitsCard

/-- THE TIED CARD OF 'laws.FnExactWriteInt'. -/
def fnExactWriteIntCard : Claim7 := { stood := { row := fnExactWriteIntRow, standIns := [], harness := (true, "d547ad19ee95dfe1ec89b66b866c7270606ca5f8800c0b9b34acb0707628ccf8"), looks := false }, kinds := [], alts := [], laidByText := true, laidKinds := [.data, .data, .data], laidTests := true, laidLooks := .later }
def FnExactWriteIntCardSaid : Prop := Claim7.holds Tryd.pinned (.plain (OpenSpec.ofChange fnExactWriteIntSpec)) fnExactWriteIntCard

/-- THE TIED CARD OF 'laws.FnExactHexOf'. -/
def fnExactHexOfCard : Claim7 := { stood := { row := fnExactHexOfRow, standIns := [], harness := (true, "d547ad19ee95dfe1ec89b66b866c7270606ca5f8800c0b9b34acb0707628ccf8"), looks := false }, kinds := [], alts := [], laidByText := true, laidKinds := [.data, .data, .data], laidTests := true, laidLooks := .later }
def FnExactHexOfCardSaid : Prop := Claim7.holds Tryd.pinned (.plain (OpenSpec.ofChange fnExactHexOfSpec)) fnExactHexOfCard

/-- THE SECOND FORM's CARD OF 'laws.FnExactPartsOf'. -/
def fnExactPartsOfUptoCard : Claim7 := { stood := { row := fnExactPartsOfUptoRow, standIns := [], harness := (true, "d547ad19ee95dfe1ec89b66b866c7270606ca5f8800c0b9b34acb0707628ccf8"), looks := false }, kinds := [], alts := [], laidByText := true, laidKinds := [.data], laidTests := true, laidLooks := .later }
def FnExactPartsOfUptoCardSaid : Prop := Claim7.holds Tryd.pinned (.plain (OpenSpec.upto fnExactPartsOfSpec)) fnExactPartsOfUptoCard

/-- THE SECOND FORM's CARD OF 'laws.FnExactWriteBits'. -/
def fnExactWriteBitsUptoCard : Claim7 := { stood := { row := fnExactWriteBitsUptoRow, standIns := [], harness := (true, "d547ad19ee95dfe1ec89b66b866c7270606ca5f8800c0b9b34acb0707628ccf8"), looks := false }, kinds := [], alts := [], laidByText := true, laidKinds := [.data, .data, .data], laidTests := true, laidLooks := .later }
def FnExactWriteBitsUptoCardSaid : Prop := Claim7.holds Tryd.pinned (.plain (OpenSpec.upto fnExactWriteBitsSpec)) fnExactWriteBitsUptoCard

/-- THE SECOND FORM's CARD OF 'laws.FnExactWriteInt'. -/
def fnExactWriteIntUptoCard : Claim7 := { stood := { row := fnExactWriteIntUptoRow, standIns := [], harness := (true, "d547ad19ee95dfe1ec89b66b866c7270606ca5f8800c0b9b34acb0707628ccf8"), looks := false }, kinds := [], alts := [], laidByText := true, laidKinds := [.data, .data, .data], laidTests := true, laidLooks := .later }
def FnExactWriteIntUptoCardSaid : Prop := Claim7.holds Tryd.pinned (.plain (OpenSpec.upto fnExactWriteIntSpec)) fnExactWriteIntUptoCard

/-- THE SECOND FORM's CARD OF 'laws.FnExactHexOf'. -/
def fnExactHexOfUptoCard : Claim7 := { stood := { row := fnExactHexOfUptoRow, standIns := [], harness := (true, "d547ad19ee95dfe1ec89b66b866c7270606ca5f8800c0b9b34acb0707628ccf8"), looks := false }, kinds := [], alts := [], laidByText := true, laidKinds := [.data, .data, .data], laidTests := true, laidLooks := .later }
def FnExactHexOfUptoCardSaid : Prop := Claim7.holds Tryd.pinned (.plain (OpenSpec.upto fnExactHexOfSpec)) fnExactHexOfUptoCard
end Rows
end Go.Proofs.YtknhncpmijgdfaaDoor
