/-
  DERIVED. GIVEN WITH THE SEED: THE CARDS: each row of YtleggogbmklddaaGreatDoorRows.lean that lists a variable, with what it lists TIED to the program's text (the seventh form; the later family's looks); each row that meets fmt, with fmt's text TOLD by the authors' own Lean function (tested against real Go, not proved from fmt's source: count such statements apart). THE CARD IS WHAT COUNTS. Prove the row's statement (the work); the ties are given (YtleggogbmklddaaGreatDoorTie.lean); close each card by the builder's one call (the guide's Derived/Test/ToyasCard.lean, 'card_holds'). Laid BY PROGRAM, IN A SANDBOX (cutbox-door.mjs). By AI agents, Wed Nov 11 2026. No macro, syntax, notation, axiom, sorry.
-/
import Derived.Test.YtleggogbmklddaaGreatDoorRows
import GoSem.ClaimSeven
namespace Go.Proofs.YtleggogbmklddaaGreatDoor
namespace Rows

/-- THE TIED CARD OF 'limbecklaw15.ExpfmtShows'. -/
def expfmtShowsCard : Claim7 := { stood := { row := expfmtShowsRow, standIns := [], harness := (true, "02829d5e3353144f7dfb92281a47534bbeedfc1b7f252cfd4dda7c1c20ece68d"), looks := false }, kinds := [], alts := [], laidByText := true, laidKinds := [.data, .data, .data], laidTests := true, laidLooks := .later }
def ExpfmtShowsCardSaid : Prop := Claim7.holds Tryz.pinned (.plain (OpenSpec.ofChange expfmtShowsSpec)) expfmtShowsCard

/-- THE TIED CARD OF 'limbecklaw15.ExpfmtDefs'. -/
def expfmtDefsCard : Claim7 := { stood := { row := expfmtDefsRow, standIns := [], harness := (true, "02829d5e3353144f7dfb92281a47534bbeedfc1b7f252cfd4dda7c1c20ece68d"), looks := false }, kinds := [], alts := [], laidByText := true, laidKinds := [.data, .data, .data], laidTests := true, laidLooks := .later }
def ExpfmtDefsCardSaid : Prop := Claim7.holds Tryz.pinned (.plain (OpenSpec.ofChange expfmtDefsSpec)) expfmtDefsCard

/-- THE TIED CARD OF 'limbecklaw15.ExpfmtOne'. -/
def expfmtOneCard : Claim7 := { stood := { row := expfmtOneRow, standIns := [], harness := (true, "02829d5e3353144f7dfb92281a47534bbeedfc1b7f252cfd4dda7c1c20ece68d"), looks := false }, kinds := [], alts := [], laidByText := true, laidKinds := [.data, .data, .data], laidTests := true, laidLooks := .later }
def ExpfmtOneCardSaid : Prop := Claim7.holds Tryz.pinned (.plain (OpenSpec.ofChange expfmtOneSpec)) expfmtOneCard

/-- THE SECOND FORM's CARD OF 'limbecklaw15.ExpfmtShows'. -/
def expfmtShowsUptoCard : Claim7 := { stood := { row := expfmtShowsUptoRow, standIns := [], harness := (true, "02829d5e3353144f7dfb92281a47534bbeedfc1b7f252cfd4dda7c1c20ece68d"), looks := false }, kinds := [], alts := [], laidByText := true, laidKinds := [.data, .data, .data], laidTests := true, laidLooks := .later }
def ExpfmtShowsUptoCardSaid : Prop := Claim7.holds Tryz.pinned (.plain (OpenSpec.upto expfmtShowsSpec)) expfmtShowsUptoCard

/-- THE SECOND FORM's CARD OF 'limbecklaw15.ExpfmtDefs'. -/
def expfmtDefsUptoCard : Claim7 := { stood := { row := expfmtDefsUptoRow, standIns := [], harness := (true, "02829d5e3353144f7dfb92281a47534bbeedfc1b7f252cfd4dda7c1c20ece68d"), looks := false }, kinds := [], alts := [], laidByText := true, laidKinds := [.data, .data, .data], laidTests := true, laidLooks := .later }
def ExpfmtDefsUptoCardSaid : Prop := Claim7.holds Tryz.pinned (.plain (OpenSpec.upto expfmtDefsSpec)) expfmtDefsUptoCard

/-- THE SECOND FORM's CARD OF 'limbecklaw15.ExpfmtOne'. -/
def expfmtOneUptoCard : Claim7 := { stood := { row := expfmtOneUptoRow, standIns := [], harness := (true, "02829d5e3353144f7dfb92281a47534bbeedfc1b7f252cfd4dda7c1c20ece68d"), looks := false }, kinds := [], alts := [], laidByText := true, laidKinds := [.data, .data, .data], laidTests := true, laidLooks := .later }
def ExpfmtOneUptoCardSaid : Prop := Claim7.holds Tryz.pinned (.plain (OpenSpec.upto expfmtOneSpec)) expfmtOneUptoCard
end Rows
end Go.Proofs.YtleggogbmklddaaGreatDoor
