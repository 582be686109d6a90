/-
  DERIVED. GIVEN WITH THE SEED: THE CARDS: each row of YtaofeleeinjclaaGreatDoorRows.lean that lists a variable, with what it lists TIED to the program's text (the seventh form; the later family's looks); each row that meets fmt, with fmt's text TOLD by the authors' own Lean function (tested against real Go, not proved from fmt's source: count such statements apart). THE CARD IS WHAT COUNTS. Prove the row's statement (the work); the ties are given (YtaofeleeinjclaaGreatDoorTie.lean); close each card by the builder's one call (the guide's Derived/Test/ToyasCard.lean, 'card_holds'). Laid BY PROGRAM, IN A SANDBOX (cutbox-door.mjs). By AI agents, Wed Nov 11 2026. No macro, syntax, notation, axiom, sorry.
-/
import Derived.Test.YtaofeleeinjclaaGreatDoorRows
import GoSem.ClaimSeven
namespace Go.Proofs.YtaofeleeinjclaaGreatDoor
namespace Rows

/-- THE TIED CARD OF 'limbecklaw03.LexReads'. -/
def lexReadsCard : Claim7 := { stood := { row := lexReadsRow, standIns := [], harness := (true, "1afb68bea52f3653be3bf49a99f4199287ab5e86e7e1045a57caf4b70e0edb8b"), looks := true }, kinds := [], alts := [], laidByText := true, laidKinds := [.data, .data, .data, .handle, .sentinel, .sentinel], laidTests := true, laidLooks := .later }
def LexReadsCardSaid : Prop := Claim7.holds Tryz.pinned (.plain (OpenSpec.ofChange lexReadsSpec)) lexReadsCard

/-- THE TIED CARD OF 'limbecklaw06.TyreadBack'. -/
def tyreadBackCard : Claim7 := { stood := { row := tyreadBackRow, standIns := [], harness := (true, "1afb68bea52f3653be3bf49a99f4199287ab5e86e7e1045a57caf4b70e0edb8b"), looks := true }, kinds := [], alts := [], laidByText := true, laidKinds := [.data, .data, .data, .sentinel, .sentinel], laidTests := true, laidLooks := .later }
def TyreadBackCardSaid : Prop := Claim7.holds Tryz.pinned (.plain (OpenSpec.ofChange tyreadBackSpec)) tyreadBackCard

/-- THE TIED CARD OF 'limbecklaw06.TyreadParses'. -/
def tyreadParsesCard : Claim7 := { stood := { row := tyreadParsesRow, standIns := [], harness := (true, "1afb68bea52f3653be3bf49a99f4199287ab5e86e7e1045a57caf4b70e0edb8b"), looks := true }, kinds := [], alts := [], laidByText := true, laidKinds := [.data, .data, .data, .handle, .sentinel, .sentinel], laidTests := true, laidLooks := .later }
def TyreadParsesCardSaid : Prop := Claim7.holds Tryz.pinned (.plain (OpenSpec.ofChange tyreadParsesSpec)) tyreadParsesCard

/-- THE TIED CARD OF 'limbecklaw06.TyreadDeep'. -/
def tyreadDeepCard : Claim7 := { stood := { row := tyreadDeepRow, standIns := [], harness := (true, "1afb68bea52f3653be3bf49a99f4199287ab5e86e7e1045a57caf4b70e0edb8b"), looks := true }, kinds := [], alts := [], laidByText := true, laidKinds := [.data, .data, .data, .handle, .sentinel, .sentinel], laidTests := true, laidLooks := .later }
def TyreadDeepCardSaid : Prop := Claim7.holds Tryz.pinned (.plain (OpenSpec.ofChange tyreadDeepSpec)) tyreadDeepCard

/-- THE TIED CARD OF 'limbecklaw06.TyreadReads'. -/
def tyreadReadsCard : Claim7 := { stood := { row := tyreadReadsRow, standIns := [], harness := (true, "1afb68bea52f3653be3bf49a99f4199287ab5e86e7e1045a57caf4b70e0edb8b"), looks := true }, kinds := [], alts := [], laidByText := true, laidKinds := [.data, .data, .data, .handle, .sentinel, .sentinel], laidTests := true, laidLooks := .later }
def TyreadReadsCardSaid : Prop := Claim7.holds Tryz.pinned (.plain (OpenSpec.ofChange tyreadReadsSpec)) tyreadReadsCard

/-- THE SECOND FORM's CARD OF 'limbecklaw03.LexReads'. -/
def lexReadsUptoCard : Claim7 := { stood := { row := lexReadsUptoRow, standIns := [], harness := (true, "1afb68bea52f3653be3bf49a99f4199287ab5e86e7e1045a57caf4b70e0edb8b"), looks := true }, kinds := [], alts := [], laidByText := true, laidKinds := [.data, .data, .data, .handle, .sentinel, .sentinel], laidTests := true, laidLooks := .later }
def LexReadsUptoCardSaid : Prop := Claim7.holds Tryz.pinned (.plain (OpenSpec.upto lexReadsSpec)) lexReadsUptoCard

/-- THE SECOND FORM's CARD OF 'limbecklaw06.TyreadBack'. -/
def tyreadBackUptoCard : Claim7 := { stood := { row := tyreadBackUptoRow, standIns := [], harness := (true, "1afb68bea52f3653be3bf49a99f4199287ab5e86e7e1045a57caf4b70e0edb8b"), looks := true }, kinds := [], alts := [], laidByText := true, laidKinds := [.data, .data, .data, .sentinel, .sentinel], laidTests := true, laidLooks := .later }
def TyreadBackUptoCardSaid : Prop := Claim7.holds Tryz.pinned (.plain (OpenSpec.upto tyreadBackSpec)) tyreadBackUptoCard

/-- THE SECOND FORM's CARD OF 'limbecklaw06.TyreadParses'. -/
def tyreadParsesUptoCard : Claim7 := { stood := { row := tyreadParsesUptoRow, standIns := [], harness := (true, "1afb68bea52f3653be3bf49a99f4199287ab5e86e7e1045a57caf4b70e0edb8b"), looks := true }, kinds := [], alts := [], laidByText := true, laidKinds := [.data, .data, .data, .handle, .sentinel, .sentinel], laidTests := true, laidLooks := .later }
def TyreadParsesUptoCardSaid : Prop := Claim7.holds Tryz.pinned (.plain (OpenSpec.upto tyreadParsesSpec)) tyreadParsesUptoCard

/-- THE SECOND FORM's CARD OF 'limbecklaw06.TyreadDeep'. -/
def tyreadDeepUptoCard : Claim7 := { stood := { row := tyreadDeepUptoRow, standIns := [], harness := (true, "1afb68bea52f3653be3bf49a99f4199287ab5e86e7e1045a57caf4b70e0edb8b"), looks := true }, kinds := [], alts := [], laidByText := true, laidKinds := [.data, .data, .data, .handle, .sentinel, .sentinel], laidTests := true, laidLooks := .later }
def TyreadDeepUptoCardSaid : Prop := Claim7.holds Tryz.pinned (.plain (OpenSpec.upto tyreadDeepSpec)) tyreadDeepUptoCard

/-- THE SECOND FORM's CARD OF 'limbecklaw06.TyreadReads'. -/
def tyreadReadsUptoCard : Claim7 := { stood := { row := tyreadReadsUptoRow, standIns := [], harness := (true, "1afb68bea52f3653be3bf49a99f4199287ab5e86e7e1045a57caf4b70e0edb8b"), looks := true }, kinds := [], alts := [], laidByText := true, laidKinds := [.data, .data, .data, .handle, .sentinel, .sentinel], laidTests := true, laidLooks := .later }
def TyreadReadsUptoCardSaid : Prop := Claim7.holds Tryz.pinned (.plain (OpenSpec.upto tyreadReadsSpec)) tyreadReadsUptoCard
end Rows
end Go.Proofs.YtaofeleeinjclaaGreatDoor
