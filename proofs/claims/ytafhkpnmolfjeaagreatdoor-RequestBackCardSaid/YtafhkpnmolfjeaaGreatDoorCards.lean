/-
  DERIVED. GIVEN WITH THE SEED: THE CARDS: each row of YtafhkpnmolfjeaaGreatDoorRows.lean that lists a variable, with what it lists TIED to the program's text (the seventh form; the later family's looks); each row that meets fmt, with fmt's text TOLD by the authors' own Lean function (tested against real Go, not proved from fmt's source: count such statements apart). THE CARD IS WHAT COUNTS. Prove the row's statement (the work); the ties are given (YtafhkpnmolfjeaaGreatDoorTie.lean); close each card by the builder's one call (the guide's Derived/Test/ToyasCard.lean, 'card_holds'). Laid BY PROGRAM, IN A SANDBOX (cutbox-door.mjs). By AI agents, Wed Nov 11 2026. No macro, syntax, notation, axiom, sorry.
-/
import Derived.Test.YtafhkpnmolfjeaaGreatDoorRows
import GoSem.ClaimSeven
namespace Go.Proofs.YtafhkpnmolfjeaaGreatDoor
namespace Rows

/-- THE TIED CARD OF 'ingotlaw25.RouteReads'. -/
def routeReadsCard : Claim7 := { stood := { row := routeReadsRow, standIns := [], harness := (true, "1fedf4f8c405ded2d1eb6c5d9266cb546f8712f7e1a0b2bf566482f71d458aaa"), looks := true }, kinds := [], alts := [], laidByText := true, laidKinds := [.data, .data, .data, .data, .handle, .sentinel, .sentinel, .pinned], laidTests := true, laidLooks := .later }
def RouteReadsCardSaid : Prop := Claim7.holds Tryz.pinned (.plain (OpenSpec.ofChange routeReadsSpec)) routeReadsCard

/-- THE TIED CARD OF 'ingotlaw25.RouteOnly'. -/
def routeOnlyCard : Claim7 := { stood := { row := routeOnlyRow, standIns := [], harness := (true, "1fedf4f8c405ded2d1eb6c5d9266cb546f8712f7e1a0b2bf566482f71d458aaa"), looks := true }, kinds := [], alts := [], laidByText := true, laidKinds := [.data, .data, .data, .data, .handle, .sentinel, .sentinel, .pinned], laidTests := true, laidLooks := .later }
def RouteOnlyCardSaid : Prop := Claim7.holds Tryz.pinned (.plain (OpenSpec.ofChange routeOnlySpec)) routeOnlyCard

/-- THE TIED CARD OF 'ingotlaw25.RouteForm'. -/
def routeFormCard : Claim7 := { stood := { row := routeFormRow, standIns := [], harness := (true, "1fedf4f8c405ded2d1eb6c5d9266cb546f8712f7e1a0b2bf566482f71d458aaa"), looks := true }, kinds := [], alts := [], laidByText := true, laidKinds := [.data, .data, .data, .data, .handle, .sentinel, .sentinel, .pinned], laidTests := true, laidLooks := .later }
def RouteFormCardSaid : Prop := Claim7.holds Tryz.pinned (.plain (OpenSpec.ofChange routeFormSpec)) routeFormCard

/-- THE TIED CARD OF 'ingotlaw23.RequestPieces'. -/
def requestPiecesCard : Claim7 := { stood := { row := requestPiecesRow, standIns := [], harness := (true, "1fedf4f8c405ded2d1eb6c5d9266cb546f8712f7e1a0b2bf566482f71d458aaa"), looks := true }, kinds := [], alts := [], laidByText := true, laidKinds := [.data, .data, .data, .data, .sentinel, .sentinel, .pinned], laidTests := true, laidLooks := .later }
def RequestPiecesCardSaid : Prop := Claim7.holds Tryz.pinned (.plain (OpenSpec.ofChange requestPiecesSpec)) requestPiecesCard

/-- THE TIED CARD OF 'ingotlaw23.RequestChunks'. -/
def requestChunksCard : Claim7 := { stood := { row := requestChunksRow, standIns := [], harness := (true, "1fedf4f8c405ded2d1eb6c5d9266cb546f8712f7e1a0b2bf566482f71d458aaa"), looks := true }, kinds := [], alts := [], laidByText := true, laidKinds := [.data, .data, .data, .data, .sentinel, .sentinel, .pinned], laidTests := true, laidLooks := .later }
def RequestChunksCardSaid : Prop := Claim7.holds Tryz.pinned (.plain (OpenSpec.ofChange requestChunksSpec)) requestChunksCard

/-- THE TIED CARD OF 'ingotlaw23.RequestNobody'. -/
def requestNobodyCard : Claim7 := { stood := { row := requestNobodyRow, standIns := [], harness := (true, "1fedf4f8c405ded2d1eb6c5d9266cb546f8712f7e1a0b2bf566482f71d458aaa"), looks := true }, kinds := [], alts := [], laidByText := true, laidKinds := [.data, .data, .data, .data, .sentinel, .sentinel, .pinned], laidTests := true, laidLooks := .later }
def RequestNobodyCardSaid : Prop := Claim7.holds Tryz.pinned (.plain (OpenSpec.ofChange requestNobodySpec)) requestNobodyCard

/-- THE TIED CARD OF 'ingotlaw23.RequestPrints'. -/
def requestPrintsCard : Claim7 := { stood := { row := requestPrintsRow, standIns := [], harness := (true, "1fedf4f8c405ded2d1eb6c5d9266cb546f8712f7e1a0b2bf566482f71d458aaa"), looks := true }, kinds := [], alts := [], laidByText := true, laidKinds := [.data, .data, .data, .data, .sentinel, .sentinel, .pinned], laidTests := true, laidLooks := .later }
def RequestPrintsCardSaid : Prop := Claim7.holds Tryz.pinned (.plain (OpenSpec.ofChange requestPrintsSpec)) requestPrintsCard

/-- THE TIED CARD OF 'ingotlaw23.RequestBack'. -/
def requestBackCard : Claim7 := { stood := { row := requestBackRow, standIns := [], harness := (true, "1fedf4f8c405ded2d1eb6c5d9266cb546f8712f7e1a0b2bf566482f71d458aaa"), looks := true }, kinds := [], alts := [], laidByText := true, laidKinds := [.data, .data, .data, .data, .sentinel, .sentinel, .pinned], laidTests := true, laidLooks := .later }
def RequestBackCardSaid : Prop := Claim7.holds Tryz.pinned (.plain (OpenSpec.ofChange requestBackSpec)) requestBackCard

/-- THE TIED CARD OF 'ingotlaw25.RoutePrints'. -/
def routePrintsCard : Claim7 := { stood := { row := routePrintsRow, standIns := [], harness := (true, "1fedf4f8c405ded2d1eb6c5d9266cb546f8712f7e1a0b2bf566482f71d458aaa"), looks := true }, kinds := [], alts := [], laidByText := true, laidKinds := [.data, .data, .data, .data, .handle, .sentinel, .sentinel, .pinned], laidTests := true, laidLooks := .later }
def RoutePrintsCardSaid : Prop := Claim7.holds Tryz.pinned (.plain (OpenSpec.ofChange routePrintsSpec)) routePrintsCard

/-- THE TIED CARD OF 'ingotlaw25.RouteBack'. -/
def routeBackCard : Claim7 := { stood := { row := routeBackRow, standIns := [], harness := (true, "1fedf4f8c405ded2d1eb6c5d9266cb546f8712f7e1a0b2bf566482f71d458aaa"), looks := true }, kinds := [], alts := [], laidByText := true, laidKinds := [.data, .data, .data, .data, .handle, .sentinel, .sentinel, .pinned], laidTests := true, laidLooks := .later }
def RouteBackCardSaid : Prop := Claim7.holds Tryz.pinned (.plain (OpenSpec.ofChange routeBackSpec)) routeBackCard

/-- THE SECOND FORM's CARD OF 'ingotlaw25.RouteReads'. -/
def routeReadsUptoCard : Claim7 := { stood := { row := routeReadsUptoRow, standIns := [], harness := (true, "1fedf4f8c405ded2d1eb6c5d9266cb546f8712f7e1a0b2bf566482f71d458aaa"), looks := true }, kinds := [], alts := [], laidByText := true, laidKinds := [.data, .data, .data, .data, .handle, .sentinel, .sentinel, .pinned], laidTests := true, laidLooks := .later }
def RouteReadsUptoCardSaid : Prop := Claim7.holds Tryz.pinned (.plain (OpenSpec.upto routeReadsSpec)) routeReadsUptoCard

/-- THE SECOND FORM's CARD OF 'ingotlaw25.RouteOnly'. -/
def routeOnlyUptoCard : Claim7 := { stood := { row := routeOnlyUptoRow, standIns := [], harness := (true, "1fedf4f8c405ded2d1eb6c5d9266cb546f8712f7e1a0b2bf566482f71d458aaa"), looks := true }, kinds := [], alts := [], laidByText := true, laidKinds := [.data, .data, .data, .data, .handle, .sentinel, .sentinel, .pinned], laidTests := true, laidLooks := .later }
def RouteOnlyUptoCardSaid : Prop := Claim7.holds Tryz.pinned (.plain (OpenSpec.upto routeOnlySpec)) routeOnlyUptoCard

/-- THE SECOND FORM's CARD OF 'ingotlaw25.RouteForm'. -/
def routeFormUptoCard : Claim7 := { stood := { row := routeFormUptoRow, standIns := [], harness := (true, "1fedf4f8c405ded2d1eb6c5d9266cb546f8712f7e1a0b2bf566482f71d458aaa"), looks := true }, kinds := [], alts := [], laidByText := true, laidKinds := [.data, .data, .data, .data, .handle, .sentinel, .sentinel, .pinned], laidTests := true, laidLooks := .later }
def RouteFormUptoCardSaid : Prop := Claim7.holds Tryz.pinned (.plain (OpenSpec.upto routeFormSpec)) routeFormUptoCard

/-- THE SECOND FORM's CARD OF 'ingotlaw23.RequestPieces'. -/
def requestPiecesUptoCard : Claim7 := { stood := { row := requestPiecesUptoRow, standIns := [], harness := (true, "1fedf4f8c405ded2d1eb6c5d9266cb546f8712f7e1a0b2bf566482f71d458aaa"), looks := true }, kinds := [], alts := [], laidByText := true, laidKinds := [.data, .data, .data, .data, .sentinel, .sentinel, .pinned], laidTests := true, laidLooks := .later }
def RequestPiecesUptoCardSaid : Prop := Claim7.holds Tryz.pinned (.plain (OpenSpec.upto requestPiecesSpec)) requestPiecesUptoCard

/-- THE SECOND FORM's CARD OF 'ingotlaw23.RequestChunks'. -/
def requestChunksUptoCard : Claim7 := { stood := { row := requestChunksUptoRow, standIns := [], harness := (true, "1fedf4f8c405ded2d1eb6c5d9266cb546f8712f7e1a0b2bf566482f71d458aaa"), looks := true }, kinds := [], alts := [], laidByText := true, laidKinds := [.data, .data, .data, .data, .sentinel, .sentinel, .pinned], laidTests := true, laidLooks := .later }
def RequestChunksUptoCardSaid : Prop := Claim7.holds Tryz.pinned (.plain (OpenSpec.upto requestChunksSpec)) requestChunksUptoCard

/-- THE SECOND FORM's CARD OF 'ingotlaw23.RequestNobody'. -/
def requestNobodyUptoCard : Claim7 := { stood := { row := requestNobodyUptoRow, standIns := [], harness := (true, "1fedf4f8c405ded2d1eb6c5d9266cb546f8712f7e1a0b2bf566482f71d458aaa"), looks := true }, kinds := [], alts := [], laidByText := true, laidKinds := [.data, .data, .data, .data, .sentinel, .sentinel, .pinned], laidTests := true, laidLooks := .later }
def RequestNobodyUptoCardSaid : Prop := Claim7.holds Tryz.pinned (.plain (OpenSpec.upto requestNobodySpec)) requestNobodyUptoCard

/-- THE SECOND FORM's CARD OF 'ingotlaw23.RequestPrints'. -/
def requestPrintsUptoCard : Claim7 := { stood := { row := requestPrintsUptoRow, standIns := [], harness := (true, "1fedf4f8c405ded2d1eb6c5d9266cb546f8712f7e1a0b2bf566482f71d458aaa"), looks := true }, kinds := [], alts := [], laidByText := true, laidKinds := [.data, .data, .data, .data, .sentinel, .sentinel, .pinned], laidTests := true, laidLooks := .later }
def RequestPrintsUptoCardSaid : Prop := Claim7.holds Tryz.pinned (.plain (OpenSpec.upto requestPrintsSpec)) requestPrintsUptoCard

/-- THE SECOND FORM's CARD OF 'ingotlaw23.RequestBack'. -/
def requestBackUptoCard : Claim7 := { stood := { row := requestBackUptoRow, standIns := [], harness := (true, "1fedf4f8c405ded2d1eb6c5d9266cb546f8712f7e1a0b2bf566482f71d458aaa"), looks := true }, kinds := [], alts := [], laidByText := true, laidKinds := [.data, .data, .data, .data, .sentinel, .sentinel, .pinned], laidTests := true, laidLooks := .later }
def RequestBackUptoCardSaid : Prop := Claim7.holds Tryz.pinned (.plain (OpenSpec.upto requestBackSpec)) requestBackUptoCard

/-- THE SECOND FORM's CARD OF 'ingotlaw25.RoutePrints'. -/
def routePrintsUptoCard : Claim7 := { stood := { row := routePrintsUptoRow, standIns := [], harness := (true, "1fedf4f8c405ded2d1eb6c5d9266cb546f8712f7e1a0b2bf566482f71d458aaa"), looks := true }, kinds := [], alts := [], laidByText := true, laidKinds := [.data, .data, .data, .data, .handle, .sentinel, .sentinel, .pinned], laidTests := true, laidLooks := .later }
def RoutePrintsUptoCardSaid : Prop := Claim7.holds Tryz.pinned (.plain (OpenSpec.upto routePrintsSpec)) routePrintsUptoCard

/-- THE SECOND FORM's CARD OF 'ingotlaw25.RouteBack'. -/
def routeBackUptoCard : Claim7 := { stood := { row := routeBackUptoRow, standIns := [], harness := (true, "1fedf4f8c405ded2d1eb6c5d9266cb546f8712f7e1a0b2bf566482f71d458aaa"), looks := true }, kinds := [], alts := [], laidByText := true, laidKinds := [.data, .data, .data, .data, .handle, .sentinel, .sentinel, .pinned], laidTests := true, laidLooks := .later }
def RouteBackUptoCardSaid : Prop := Claim7.holds Tryz.pinned (.plain (OpenSpec.upto routeBackSpec)) routeBackUptoCard
end Rows
end Go.Proofs.YtafhkpnmolfjeaaGreatDoor
