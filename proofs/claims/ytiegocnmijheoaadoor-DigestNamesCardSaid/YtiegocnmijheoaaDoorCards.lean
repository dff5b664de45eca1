/-
  DERIVED. GIVEN WITH THE SEED: THE CARDS: each row of YtiegocnmijheoaaDoorRows.lean that lists a variable, with what it lists TIED to the program's text (the seventh form; the later family's looks); each row that meets fmt, with fmt's text TOLD by the authors' own Lean function (tested against real Go, not proved from fmt's source: count such statements apart). THE CARD IS WHAT COUNTS. Prove the row's statement (the work); the ties are given (YtiegocnmijheoaaDoorTie.lean); close each card by the builder's one call (the guide's Derived/Test/ToyasCard.lean, 'card_holds'). Laid BY PROGRAM, IN A SANDBOX (cutbox-door.mjs). By AI agents, Wed Nov 11 2026. No macro, syntax, notation, axiom, sorry.
-/
import Derived.Test.YtiegocnmijheoaaDoorRows
import GoSem.ClaimSeven
namespace Go.Proofs.YtiegocnmijheoaaDoor
namespace Rows

/-- THE TIED CARD OF 'jettylaw06.DigestSums'. -/
def digestSumsCard : Claim7 := { stood := { row := digestSumsRow, standIns := [], harness := (true, "40ee0fac40bb7247dbfbd7102cd9c4835576c5a8a2fdb9199c72ccc4aadfd1dc"), looks := true }, kinds := [], alts := [], laidByText := true, laidKinds := [.data, .data, .data, .sentinel, .sentinel], laidTests := true, laidLooks := .later }
def DigestSumsCardSaid : Prop := Claim7.holds Tryd.pinned (.plain (OpenSpec.ofChange digestSumsSpec)) digestSumsCard

/-- THE TIED CARD OF 'jettylaw06.DigestNames'. -/
def digestNamesCard : Claim7 := { stood := { row := digestNamesRow, standIns := [], harness := (true, "40ee0fac40bb7247dbfbd7102cd9c4835576c5a8a2fdb9199c72ccc4aadfd1dc"), looks := true }, kinds := [], alts := [], laidByText := true, laidKinds := [.data, .data, .data, .sentinel, .sentinel], laidTests := true, laidLooks := .later }
def DigestNamesCardSaid : Prop := Claim7.holds Tryd.pinned (.plain (OpenSpec.ofChange digestNamesSpec)) digestNamesCard

/-- THE TIED CARD OF 'jettylaw06.DigestParts'. -/
def digestPartsCard : Claim7 := { stood := { row := digestPartsRow, standIns := [], harness := (true, "40ee0fac40bb7247dbfbd7102cd9c4835576c5a8a2fdb9199c72ccc4aadfd1dc"), looks := true }, kinds := [], alts := [], laidByText := true, laidKinds := [.data, .data, .data, .sentinel, .sentinel], laidTests := true, laidLooks := .later }
def DigestPartsCardSaid : Prop := Claim7.holds Tryd.pinned (.plain (OpenSpec.ofChange digestPartsSpec)) digestPartsCard

/-- THE TIED CARD OF 'jettylaw06.DigestByte'. -/
def digestByteCard : Claim7 := { stood := { row := digestByteRow, standIns := [], harness := (true, "40ee0fac40bb7247dbfbd7102cd9c4835576c5a8a2fdb9199c72ccc4aadfd1dc"), looks := true }, kinds := [], alts := [], laidByText := true, laidKinds := [.data, .data, .data, .sentinel, .sentinel], laidTests := true, laidLooks := .later }
def DigestByteCardSaid : Prop := Claim7.holds Tryd.pinned (.plain (OpenSpec.ofChange digestByteSpec)) digestByteCard

/-- THE TIED CARD OF 'jettylaw06.DigestTexts'. -/
def digestTextsCard : Claim7 := { stood := { row := digestTextsRow, standIns := [], harness := (true, "40ee0fac40bb7247dbfbd7102cd9c4835576c5a8a2fdb9199c72ccc4aadfd1dc"), looks := true }, kinds := [], alts := [], laidByText := true, laidKinds := [.data, .data, .data, .sentinel, .sentinel], laidTests := true, laidLooks := .later }
def DigestTextsCardSaid : Prop := Claim7.holds Tryd.pinned (.plain (OpenSpec.ofChange digestTextsSpec)) digestTextsCard

/-- THE TIED CARD OF 'jettylaw06.DigestOn'. -/
def digestOnCard : Claim7 := { stood := { row := digestOnRow, standIns := [], harness := (true, "40ee0fac40bb7247dbfbd7102cd9c4835576c5a8a2fdb9199c72ccc4aadfd1dc"), looks := true }, kinds := [], alts := [], laidByText := true, laidKinds := [.data, .data, .data, .sentinel, .sentinel], laidTests := true, laidLooks := .later }
def DigestOnCardSaid : Prop := Claim7.holds Tryd.pinned (.plain (OpenSpec.ofChange digestOnSpec)) digestOnCard

/-- THE TIED CARD OF 'jettylaw06.DigestOf'. -/
def digestOfCard : Claim7 := { stood := { row := digestOfRow, standIns := [], harness := (true, "40ee0fac40bb7247dbfbd7102cd9c4835576c5a8a2fdb9199c72ccc4aadfd1dc"), looks := true }, kinds := [], alts := [], laidByText := true, laidKinds := [.data, .data, .data, .sentinel, .sentinel], laidTests := true, laidLooks := .later }
def DigestOfCardSaid : Prop := Claim7.holds Tryd.pinned (.plain (OpenSpec.ofChange digestOfSpec)) digestOfCard

/-- THE SECOND FORM's CARD OF 'jettylaw06.DigestSums'. -/
def digestSumsUptoCard : Claim7 := { stood := { row := digestSumsUptoRow, standIns := [], harness := (true, "40ee0fac40bb7247dbfbd7102cd9c4835576c5a8a2fdb9199c72ccc4aadfd1dc"), looks := true }, kinds := [], alts := [], laidByText := true, laidKinds := [.data, .data, .data, .sentinel, .sentinel], laidTests := true, laidLooks := .later }
def DigestSumsUptoCardSaid : Prop := Claim7.holds Tryd.pinned (.plain (OpenSpec.upto digestSumsSpec)) digestSumsUptoCard

/-- THE SECOND FORM's CARD OF 'jettylaw06.DigestNames'. -/
def digestNamesUptoCard : Claim7 := { stood := { row := digestNamesUptoRow, standIns := [], harness := (true, "40ee0fac40bb7247dbfbd7102cd9c4835576c5a8a2fdb9199c72ccc4aadfd1dc"), looks := true }, kinds := [], alts := [], laidByText := true, laidKinds := [.data, .data, .data, .sentinel, .sentinel], laidTests := true, laidLooks := .later }
def DigestNamesUptoCardSaid : Prop := Claim7.holds Tryd.pinned (.plain (OpenSpec.upto digestNamesSpec)) digestNamesUptoCard

/-- THE SECOND FORM's CARD OF 'jettylaw06.DigestParts'. -/
def digestPartsUptoCard : Claim7 := { stood := { row := digestPartsUptoRow, standIns := [], harness := (true, "40ee0fac40bb7247dbfbd7102cd9c4835576c5a8a2fdb9199c72ccc4aadfd1dc"), looks := true }, kinds := [], alts := [], laidByText := true, laidKinds := [.data, .data, .data, .sentinel, .sentinel], laidTests := true, laidLooks := .later }
def DigestPartsUptoCardSaid : Prop := Claim7.holds Tryd.pinned (.plain (OpenSpec.upto digestPartsSpec)) digestPartsUptoCard

/-- THE SECOND FORM's CARD OF 'jettylaw06.DigestByte'. -/
def digestByteUptoCard : Claim7 := { stood := { row := digestByteUptoRow, standIns := [], harness := (true, "40ee0fac40bb7247dbfbd7102cd9c4835576c5a8a2fdb9199c72ccc4aadfd1dc"), looks := true }, kinds := [], alts := [], laidByText := true, laidKinds := [.data, .data, .data, .sentinel, .sentinel], laidTests := true, laidLooks := .later }
def DigestByteUptoCardSaid : Prop := Claim7.holds Tryd.pinned (.plain (OpenSpec.upto digestByteSpec)) digestByteUptoCard

/-- THE SECOND FORM's CARD OF 'jettylaw06.DigestTexts'. -/
def digestTextsUptoCard : Claim7 := { stood := { row := digestTextsUptoRow, standIns := [], harness := (true, "40ee0fac40bb7247dbfbd7102cd9c4835576c5a8a2fdb9199c72ccc4aadfd1dc"), looks := true }, kinds := [], alts := [], laidByText := true, laidKinds := [.data, .data, .data, .sentinel, .sentinel], laidTests := true, laidLooks := .later }
def DigestTextsUptoCardSaid : Prop := Claim7.holds Tryd.pinned (.plain (OpenSpec.upto digestTextsSpec)) digestTextsUptoCard

/-- THE SECOND FORM's CARD OF 'jettylaw06.DigestOn'. -/
def digestOnUptoCard : Claim7 := { stood := { row := digestOnUptoRow, standIns := [], harness := (true, "40ee0fac40bb7247dbfbd7102cd9c4835576c5a8a2fdb9199c72ccc4aadfd1dc"), looks := true }, kinds := [], alts := [], laidByText := true, laidKinds := [.data, .data, .data, .sentinel, .sentinel], laidTests := true, laidLooks := .later }
def DigestOnUptoCardSaid : Prop := Claim7.holds Tryd.pinned (.plain (OpenSpec.upto digestOnSpec)) digestOnUptoCard

/-- THE SECOND FORM's CARD OF 'jettylaw06.DigestOf'. -/
def digestOfUptoCard : Claim7 := { stood := { row := digestOfUptoRow, standIns := [], harness := (true, "40ee0fac40bb7247dbfbd7102cd9c4835576c5a8a2fdb9199c72ccc4aadfd1dc"), looks := true }, kinds := [], alts := [], laidByText := true, laidKinds := [.data, .data, .data, .sentinel, .sentinel], laidTests := true, laidLooks := .later }
def DigestOfUptoCardSaid : Prop := Claim7.holds Tryd.pinned (.plain (OpenSpec.upto digestOfSpec)) digestOfUptoCard
end Rows
end Go.Proofs.YtiegocnmijheoaaDoor
