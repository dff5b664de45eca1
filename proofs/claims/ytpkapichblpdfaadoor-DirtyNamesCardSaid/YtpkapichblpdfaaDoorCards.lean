/-
  DERIVED. GIVEN WITH THE SEED: THE CARDS: each row of YtpkapichblpdfaaDoorRows.lean that lists a variable, with what it lists TIED to the program's text (the seventh form; the later family's looks); each row that meets fmt, with fmt's text TOLD by the authors' own Lean function (tested against real Go, not proved from fmt's source: count such statements apart). THE CARD IS WHAT COUNTS. Prove the row's statement (the work); the ties are given (YtpkapichblpdfaaDoorTie.lean); close each card by the builder's one call (the guide's Derived/Test/ToyasCard.lean, 'card_holds'). Laid BY PROGRAM, IN A SANDBOX (cutbox-door.mjs). By AI agents, Wed Nov 11 2026. No macro, syntax, notation, axiom, sorry.
-/
import Derived.Test.YtpkapichblpdfaaDoorRows
import GoSem.ClaimSeven
namespace Go.Proofs.YtpkapichblpdfaaDoor
namespace Rows

/-- THE TIED CARD OF 'jettylaw22.DirtyVerf'. -/
def dirtyVerfCard : Claim7 := { stood := { row := dirtyVerfRow, standIns := [], harness := (true, "781d8fa65a85c9e2a3fd3fe036b2f5f251fbcbb3809403d0951a78fcf3074a93"), looks := false }, kinds := [], alts := [], laidByText := true, laidKinds := [.data, .data, .data], laidTests := true, laidLooks := .later }
def DirtyVerfCardSaid : Prop := Claim7.holds Tryd.pinned (.plain (OpenSpec.ofChange dirtyVerfSpec)) dirtyVerfCard

/-- THE TIED CARD OF 'jettylaw22.DirtyReads'. -/
def dirtyReadsCard : Claim7 := { stood := { row := dirtyReadsRow, standIns := [], harness := (true, "781d8fa65a85c9e2a3fd3fe036b2f5f251fbcbb3809403d0951a78fcf3074a93"), looks := false }, kinds := [], alts := [], laidByText := true, laidKinds := [.data, .data, .data], laidTests := true, laidLooks := .later }
def DirtyReadsCardSaid : Prop := Claim7.holds Tryd.pinned (.plain (OpenSpec.ofChange dirtyReadsSpec)) dirtyReadsCard

/-- THE TIED CARD OF 'jettylaw22.DirtyParts'. -/
def dirtyPartsCard : Claim7 := { stood := { row := dirtyPartsRow, standIns := [], harness := (true, "781d8fa65a85c9e2a3fd3fe036b2f5f251fbcbb3809403d0951a78fcf3074a93"), looks := false }, kinds := [], alts := [], laidByText := true, laidKinds := [.data, .data, .data], laidTests := true, laidLooks := .later }
def DirtyPartsCardSaid : Prop := Claim7.holds Tryd.pinned (.plain (OpenSpec.ofChange dirtyPartsSpec)) dirtyPartsCard

/-- THE TIED CARD OF 'jettylaw22.DirtyNames'. -/
def dirtyNamesCard : Claim7 := { stood := { row := dirtyNamesRow, standIns := [], harness := (true, "781d8fa65a85c9e2a3fd3fe036b2f5f251fbcbb3809403d0951a78fcf3074a93"), looks := false }, kinds := [], alts := [], laidByText := true, laidKinds := [.data, .data, .data], laidTests := true, laidLooks := .later }
def DirtyNamesCardSaid : Prop := Claim7.holds Tryd.pinned (.plain (OpenSpec.ofChange dirtyNamesSpec)) dirtyNamesCard

/-- THE SECOND FORM's CARD OF 'jettylaw22.DirtyVerf'. -/
def dirtyVerfUptoCard : Claim7 := { stood := { row := dirtyVerfUptoRow, standIns := [], harness := (true, "781d8fa65a85c9e2a3fd3fe036b2f5f251fbcbb3809403d0951a78fcf3074a93"), looks := false }, kinds := [], alts := [], laidByText := true, laidKinds := [.data, .data, .data], laidTests := true, laidLooks := .later }
def DirtyVerfUptoCardSaid : Prop := Claim7.holds Tryd.pinned (.plain (OpenSpec.upto dirtyVerfSpec)) dirtyVerfUptoCard

/-- THE SECOND FORM's CARD OF 'jettylaw22.DirtyReads'. -/
def dirtyReadsUptoCard : Claim7 := { stood := { row := dirtyReadsUptoRow, standIns := [], harness := (true, "781d8fa65a85c9e2a3fd3fe036b2f5f251fbcbb3809403d0951a78fcf3074a93"), looks := false }, kinds := [], alts := [], laidByText := true, laidKinds := [.data, .data, .data], laidTests := true, laidLooks := .later }
def DirtyReadsUptoCardSaid : Prop := Claim7.holds Tryd.pinned (.plain (OpenSpec.upto dirtyReadsSpec)) dirtyReadsUptoCard

/-- THE SECOND FORM's CARD OF 'jettylaw22.DirtyParts'. -/
def dirtyPartsUptoCard : Claim7 := { stood := { row := dirtyPartsUptoRow, standIns := [], harness := (true, "781d8fa65a85c9e2a3fd3fe036b2f5f251fbcbb3809403d0951a78fcf3074a93"), looks := false }, kinds := [], alts := [], laidByText := true, laidKinds := [.data, .data, .data], laidTests := true, laidLooks := .later }
def DirtyPartsUptoCardSaid : Prop := Claim7.holds Tryd.pinned (.plain (OpenSpec.upto dirtyPartsSpec)) dirtyPartsUptoCard

/-- THE SECOND FORM's CARD OF 'jettylaw22.DirtyNames'. -/
def dirtyNamesUptoCard : Claim7 := { stood := { row := dirtyNamesUptoRow, standIns := [], harness := (true, "781d8fa65a85c9e2a3fd3fe036b2f5f251fbcbb3809403d0951a78fcf3074a93"), looks := false }, kinds := [], alts := [], laidByText := true, laidKinds := [.data, .data, .data], laidTests := true, laidLooks := .later }
def DirtyNamesUptoCardSaid : Prop := Claim7.holds Tryd.pinned (.plain (OpenSpec.upto dirtyNamesSpec)) dirtyNamesUptoCard
end Rows
end Go.Proofs.YtpkapichblpdfaaDoor
