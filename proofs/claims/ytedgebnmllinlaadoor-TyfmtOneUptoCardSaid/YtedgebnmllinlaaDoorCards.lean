/-
  DERIVED. GIVEN WITH THE SEED: THE CARDS: each row of YtedgebnmllinlaaDoorRows.lean that lists a variable, with what it lists TIED to the program's text (the seventh form; the later family's looks); each row that meets fmt, with fmt's text TOLD by the authors' own Lean function (tested against real Go, not proved from fmt's source: count such statements apart). THE CARD IS WHAT COUNTS. Prove the row's statement (the work); the ties are given (YtedgebnmllinlaaDoorTie.lean); close each card by the builder's one call (the guide's Derived/Test/ToyasCard.lean, 'card_holds'). Laid BY PROGRAM, IN A SANDBOX (cutbox-door.mjs). By AI agents, Wed Nov 11 2026. No macro, syntax, notation, axiom, sorry.
-/
import Derived.Test.YtedgebnmllinlaaDoorRows
import GoSem.ClaimSeven
namespace Go.Proofs.YtedgebnmllinlaaDoor
namespace Rows

/-- THE TIED CARD OF 'limbecklaw02.FaultTells'. -/
def faultTellsCard : Claim7 := { stood := { row := faultTellsRow, standIns := [], harness := (true, "38ecb34dedfc3befa4b620f383b11f0a5f4ac9bf8cfaa9dab3f858197920fbcf"), looks := true }, kinds := [], alts := [], laidByText := true, laidKinds := [.handle], laidTests := true, laidLooks := .later }
def FaultTellsCardSaid : Prop := Claim7.holds Tryd.pinned (.plain (OpenSpec.ofChange faultTellsSpec)) faultTellsCard

/-- THE TIED CARD OF 'limbecklaw02.FaultStays'. -/
def faultStaysCard : Claim7 := { stood := { row := faultStaysRow, standIns := [], harness := (true, "38ecb34dedfc3befa4b620f383b11f0a5f4ac9bf8cfaa9dab3f858197920fbcf"), looks := true }, kinds := [], alts := [], laidByText := true, laidKinds := [.handle], laidTests := true, laidLooks := .later }
def FaultStaysCardSaid : Prop := Claim7.holds Tryd.pinned (.plain (OpenSpec.ofChange faultStaysSpec)) faultStaysCard

/-- THE TIED CARD OF 'limbecklaw02.FaultNone'. -/
def faultNoneCard : Claim7 := { stood := { row := faultNoneRow, standIns := [], harness := (true, "38ecb34dedfc3befa4b620f383b11f0a5f4ac9bf8cfaa9dab3f858197920fbcf"), looks := true }, kinds := [], alts := [], laidByText := true, laidKinds := [.handle], laidTests := true, laidLooks := .later }
def FaultNoneCardSaid : Prop := Claim7.holds Tryd.pinned (.plain (OpenSpec.ofChange faultNoneSpec)) faultNoneCard

/-- THE TIED CARD OF 'limbecklaw33.ObsTells'. -/
def obsTellsCard : Claim7 := { stood := { row := obsTellsRow, standIns := [], harness := (true, "38ecb34dedfc3befa4b620f383b11f0a5f4ac9bf8cfaa9dab3f858197920fbcf"), looks := true }, kinds := [], alts := [], laidByText := true, laidKinds := [.data, .data, .data, .data], laidTests := true, laidLooks := .later }
def ObsTellsCardSaid : Prop := Claim7.holds Tryd.pinned (.plain (OpenSpec.ofChange obsTellsSpec)) obsTellsCard

/-- THE TIED CARD OF 'limbecklaw33.ObsSeals'. -/
def obsSealsCard : Claim7 := { stood := { row := obsSealsRow, standIns := [], harness := (true, "38ecb34dedfc3befa4b620f383b11f0a5f4ac9bf8cfaa9dab3f858197920fbcf"), looks := true }, kinds := [], alts := [], laidByText := true, laidKinds := [.data, .data, .data, .data], laidTests := true, laidLooks := .later }
def ObsSealsCardSaid : Prop := Claim7.holds Tryd.pinned (.plain (OpenSpec.ofChange obsSealsSpec)) obsSealsCard

/-- THE TIED CARD OF 'limbecklaw05.TyfmtShows'. -/
def tyfmtShowsCard : Claim7 := { stood := { row := tyfmtShowsRow, standIns := [], harness := (true, "38ecb34dedfc3befa4b620f383b11f0a5f4ac9bf8cfaa9dab3f858197920fbcf"), looks := true }, kinds := [], alts := [], laidByText := true, laidKinds := [.data, .data, .data], laidTests := true, laidLooks := .later }
def TyfmtShowsCardSaid : Prop := Claim7.holds Tryd.pinned (.plain (OpenSpec.ofChange tyfmtShowsSpec)) tyfmtShowsCard

/-- THE TIED CARD OF 'limbecklaw05.TyfmtOne'. -/
def tyfmtOneCard : Claim7 := { stood := { row := tyfmtOneRow, standIns := [], harness := (true, "38ecb34dedfc3befa4b620f383b11f0a5f4ac9bf8cfaa9dab3f858197920fbcf"), looks := true }, kinds := [], alts := [], laidByText := true, laidKinds := [.data, .data, .data], laidTests := true, laidLooks := .later }
def TyfmtOneCardSaid : Prop := Claim7.holds Tryd.pinned (.plain (OpenSpec.ofChange tyfmtOneSpec)) tyfmtOneCard

/-- THE TIED CARD OF 'limbecklaw05.TyfmtLists'. -/
def tyfmtListsCard : Claim7 := { stood := { row := tyfmtListsRow, standIns := [], harness := (true, "38ecb34dedfc3befa4b620f383b11f0a5f4ac9bf8cfaa9dab3f858197920fbcf"), looks := true }, kinds := [], alts := [], laidByText := true, laidKinds := [.data, .data, .data], laidTests := true, laidLooks := .later }
def TyfmtListsCardSaid : Prop := Claim7.holds Tryd.pinned (.plain (OpenSpec.ofChange tyfmtListsSpec)) tyfmtListsCard

/-- THE SECOND FORM's CARD OF 'limbecklaw02.FaultTells'. -/
def faultTellsUptoCard : Claim7 := { stood := { row := faultTellsUptoRow, standIns := [], harness := (true, "38ecb34dedfc3befa4b620f383b11f0a5f4ac9bf8cfaa9dab3f858197920fbcf"), looks := true }, kinds := [], alts := [], laidByText := true, laidKinds := [.handle], laidTests := true, laidLooks := .later }
def FaultTellsUptoCardSaid : Prop := Claim7.holds Tryd.pinned (.plain (OpenSpec.upto faultTellsSpec)) faultTellsUptoCard

/-- THE SECOND FORM's CARD OF 'limbecklaw02.FaultStays'. -/
def faultStaysUptoCard : Claim7 := { stood := { row := faultStaysUptoRow, standIns := [], harness := (true, "38ecb34dedfc3befa4b620f383b11f0a5f4ac9bf8cfaa9dab3f858197920fbcf"), looks := true }, kinds := [], alts := [], laidByText := true, laidKinds := [.handle], laidTests := true, laidLooks := .later }
def FaultStaysUptoCardSaid : Prop := Claim7.holds Tryd.pinned (.plain (OpenSpec.upto faultStaysSpec)) faultStaysUptoCard

/-- THE SECOND FORM's CARD OF 'limbecklaw02.FaultNone'. -/
def faultNoneUptoCard : Claim7 := { stood := { row := faultNoneUptoRow, standIns := [], harness := (true, "38ecb34dedfc3befa4b620f383b11f0a5f4ac9bf8cfaa9dab3f858197920fbcf"), looks := true }, kinds := [], alts := [], laidByText := true, laidKinds := [.handle], laidTests := true, laidLooks := .later }
def FaultNoneUptoCardSaid : Prop := Claim7.holds Tryd.pinned (.plain (OpenSpec.upto faultNoneSpec)) faultNoneUptoCard

/-- THE SECOND FORM's CARD OF 'limbecklaw33.ObsTells'. -/
def obsTellsUptoCard : Claim7 := { stood := { row := obsTellsUptoRow, standIns := [], harness := (true, "38ecb34dedfc3befa4b620f383b11f0a5f4ac9bf8cfaa9dab3f858197920fbcf"), looks := true }, kinds := [], alts := [], laidByText := true, laidKinds := [.data, .data, .data, .data], laidTests := true, laidLooks := .later }
def ObsTellsUptoCardSaid : Prop := Claim7.holds Tryd.pinned (.plain (OpenSpec.upto obsTellsSpec)) obsTellsUptoCard

/-- THE SECOND FORM's CARD OF 'limbecklaw33.ObsSeals'. -/
def obsSealsUptoCard : Claim7 := { stood := { row := obsSealsUptoRow, standIns := [], harness := (true, "38ecb34dedfc3befa4b620f383b11f0a5f4ac9bf8cfaa9dab3f858197920fbcf"), looks := true }, kinds := [], alts := [], laidByText := true, laidKinds := [.data, .data, .data, .data], laidTests := true, laidLooks := .later }
def ObsSealsUptoCardSaid : Prop := Claim7.holds Tryd.pinned (.plain (OpenSpec.upto obsSealsSpec)) obsSealsUptoCard

/-- THE SECOND FORM's CARD OF 'limbecklaw05.TyfmtShows'. -/
def tyfmtShowsUptoCard : Claim7 := { stood := { row := tyfmtShowsUptoRow, standIns := [], harness := (true, "38ecb34dedfc3befa4b620f383b11f0a5f4ac9bf8cfaa9dab3f858197920fbcf"), looks := true }, kinds := [], alts := [], laidByText := true, laidKinds := [.data, .data, .data], laidTests := true, laidLooks := .later }
def TyfmtShowsUptoCardSaid : Prop := Claim7.holds Tryd.pinned (.plain (OpenSpec.upto tyfmtShowsSpec)) tyfmtShowsUptoCard

/-- THE SECOND FORM's CARD OF 'limbecklaw05.TyfmtOne'. -/
def tyfmtOneUptoCard : Claim7 := { stood := { row := tyfmtOneUptoRow, standIns := [], harness := (true, "38ecb34dedfc3befa4b620f383b11f0a5f4ac9bf8cfaa9dab3f858197920fbcf"), looks := true }, kinds := [], alts := [], laidByText := true, laidKinds := [.data, .data, .data], laidTests := true, laidLooks := .later }
def TyfmtOneUptoCardSaid : Prop := Claim7.holds Tryd.pinned (.plain (OpenSpec.upto tyfmtOneSpec)) tyfmtOneUptoCard

/-- THE SECOND FORM's CARD OF 'limbecklaw05.TyfmtLists'. -/
def tyfmtListsUptoCard : Claim7 := { stood := { row := tyfmtListsUptoRow, standIns := [], harness := (true, "38ecb34dedfc3befa4b620f383b11f0a5f4ac9bf8cfaa9dab3f858197920fbcf"), looks := true }, kinds := [], alts := [], laidByText := true, laidKinds := [.data, .data, .data], laidTests := true, laidLooks := .later }
def TyfmtListsUptoCardSaid : Prop := Claim7.holds Tryd.pinned (.plain (OpenSpec.upto tyfmtListsSpec)) tyfmtListsUptoCard
end Rows
end Go.Proofs.YtedgebnmllinlaaDoor
