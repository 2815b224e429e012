/-
  DERIVED. GIVEN WITH THE SEED: THE CARDS: each row of YtalfbhhldfffkabDoorRows.lean that lists a variable, with what it lists TIED to the program's text (the seventh form; the later family's looks); each row that meets fmt, with fmt's text TOLD by the authors' own Lean function (tested against real Go, not proved from fmt's source: count such statements apart). THE CARD IS WHAT COUNTS. Prove the row's statement (the work); the ties are given (YtalfbhhldfffkabDoorTie.lean); close each card by the builder's one call (the guide's Derived/Test/ToyasCard.lean, 'card_holds'). Laid BY PROGRAM, IN A SANDBOX (cutbox-door.mjs). By AI agents, Wed Nov 11 2026. No macro, syntax, notation, axiom, sorry.
-/
import Derived.Test.YtalfbhhldfffkabDoorRows
import GoSem.ClaimSeven
namespace Go.Proofs.YtalfbhhldfffkabDoor
namespace Rows

/-- THE TIED CARD OF 'postilionlaw.LineDoes'. -/
def lineDoesCard : Claim7 := { stood := { row := lineDoesRow, standIns := [], harness := (true, "16d9b704314f49b8474051aa5566130dd5de2e5a279926428699790f6c258226"), looks := false }, kinds := [], alts := [], laidByText := true, laidKinds := [.data, .data, .data, .data, .pinned], laidTests := true, laidLooks := .later }
def LineDoesCardSaid : Prop := Claim7.holds Tryd.pinned (.plain (OpenSpec.ofChange lineDoesSpec)) lineDoesCard

/-- THE TIED CARD OF 'postilionlaw.LineBack'. -/
def lineBackCard : Claim7 := { stood := { row := lineBackRow, standIns := [], harness := (true, "16d9b704314f49b8474051aa5566130dd5de2e5a279926428699790f6c258226"), looks := false }, kinds := [], alts := [], laidByText := true, laidKinds := [.data, .data, .data, .data, .pinned], laidTests := true, laidLooks := .later }
def LineBackCardSaid : Prop := Claim7.holds Tryd.pinned (.plain (OpenSpec.ofChange lineBackSpec)) lineBackCard

/-- THE TIED CARD OF 'postilionlaw.LineApart'. -/
def lineApartCard : Claim7 := { stood := { row := lineApartRow, standIns := [], harness := (true, "16d9b704314f49b8474051aa5566130dd5de2e5a279926428699790f6c258226"), looks := false }, kinds := [], alts := [], laidByText := true, laidKinds := [.data, .data, .data, .data, .pinned], laidTests := true, laidLooks := .later }
def LineApartCardSaid : Prop := Claim7.holds Tryd.pinned (.plain (OpenSpec.ofChange lineApartSpec)) lineApartCard

/-- THE SECOND FORM's CARD OF 'postilionlaw.LineDoes'. -/
def lineDoesUptoCard : Claim7 := { stood := { row := lineDoesUptoRow, standIns := [], harness := (true, "16d9b704314f49b8474051aa5566130dd5de2e5a279926428699790f6c258226"), looks := false }, kinds := [], alts := [], laidByText := true, laidKinds := [.data, .data, .data, .data, .pinned], laidTests := true, laidLooks := .later }
def LineDoesUptoCardSaid : Prop := Claim7.holds Tryd.pinned (.plain (OpenSpec.upto lineDoesSpec)) lineDoesUptoCard

/-- THE SECOND FORM's CARD OF 'postilionlaw.LineBack'. -/
def lineBackUptoCard : Claim7 := { stood := { row := lineBackUptoRow, standIns := [], harness := (true, "16d9b704314f49b8474051aa5566130dd5de2e5a279926428699790f6c258226"), looks := false }, kinds := [], alts := [], laidByText := true, laidKinds := [.data, .data, .data, .data, .pinned], laidTests := true, laidLooks := .later }
def LineBackUptoCardSaid : Prop := Claim7.holds Tryd.pinned (.plain (OpenSpec.upto lineBackSpec)) lineBackUptoCard

/-- THE SECOND FORM's CARD OF 'postilionlaw.LineApart'. -/
def lineApartUptoCard : Claim7 := { stood := { row := lineApartUptoRow, standIns := [], harness := (true, "16d9b704314f49b8474051aa5566130dd5de2e5a279926428699790f6c258226"), looks := false }, kinds := [], alts := [], laidByText := true, laidKinds := [.data, .data, .data, .data, .pinned], laidTests := true, laidLooks := .later }
def LineApartUptoCardSaid : Prop := Claim7.holds Tryd.pinned (.plain (OpenSpec.upto lineApartSpec)) lineApartUptoCard
end Rows
end Go.Proofs.YtalfbhhldfffkabDoor
