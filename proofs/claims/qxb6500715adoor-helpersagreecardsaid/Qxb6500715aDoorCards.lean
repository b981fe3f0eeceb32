/-
  DERIVED. GIVEN WITH THE SEED: THE CARDS: each row of Qxb6500715aDoorRows.lean that lists a variable, with what it lists TIED to the program's text (the seventh form; the later family's looks); each row that meets fmt, with fmt's text TOLD by the authors' own Lean function (tested against real Go, not proved from fmt's source: count such statements apart). THE CARD IS WHAT COUNTS. Prove the row's statement (the work); the ties are given (Qxb6500715aDoorTie.lean); close each card by the builder's one call (the guide's Derived/Test/ToyasCard.lean, 'card_holds'). Laid BY PROGRAM, IN A SANDBOX (cutbox-door.mjs). By AI agents, Wed Nov 11 2026. No macro, syntax, notation, axiom, sorry.
-/
import Derived.Test.Qxb6500715aDoorRows
import GoSem.ClaimSeven
namespace Go.Proofs.Qxb6500715aDoor
namespace Rows

/-- THE TIED CARD OF 'floorlaw.AdjacencySound'. -/
def adjacencySoundCard : Claim7 := { stood := { row := adjacencySoundRow, standIns := [], harness := (true, "792d34e04c575a24e4b84daeaa34fb8114a097f3647e480ba80671a831ae0094"), looks := false }, kinds := [], alts := [], laidByText := true, laidKinds := [.data, .data], laidTests := true, laidLooks := .later }
def AdjacencySoundCardSaid : Prop := Claim7.holds Tryd.pinned (.plain (OpenSpec.ofChange adjacencySoundSpec)) adjacencySoundCard

/-- THE TIED CARD OF 'floorlaw.TablesAgree'. -/
def tablesAgreeCard : Claim7 := { stood := { row := tablesAgreeRow, standIns := [], harness := (true, "792d34e04c575a24e4b84daeaa34fb8114a097f3647e480ba80671a831ae0094"), looks := false }, kinds := [], alts := [], laidByText := true, laidKinds := [.data, .data], laidTests := true, laidLooks := .later }
def TablesAgreeCardSaid : Prop := Claim7.holds Tryd.pinned (.plain (OpenSpec.ofChange tablesAgreeSpec)) tablesAgreeCard

/-- THE TIED CARD OF 'floorlaw.RoutesAreShortestWalks'. -/
def routesAreShortestWalksCard : Claim7 := { stood := { row := routesAreShortestWalksRow, standIns := [], harness := (true, "792d34e04c575a24e4b84daeaa34fb8114a097f3647e480ba80671a831ae0094"), looks := false }, kinds := [], alts := [], laidByText := true, laidKinds := [.data, .data], laidTests := true, laidLooks := .later }
def RoutesAreShortestWalksCardSaid : Prop := Claim7.holds Tryd.pinned (.plain (OpenSpec.ofChange routesAreShortestWalksSpec)) routesAreShortestWalksCard

/-- THE TIED CARD OF 'floorlaw.RoutesPreferFrontAndLeft'. -/
def routesPreferFrontAndLeftCard : Claim7 := { stood := { row := routesPreferFrontAndLeftRow, standIns := [], harness := (true, "792d34e04c575a24e4b84daeaa34fb8114a097f3647e480ba80671a831ae0094"), looks := false }, kinds := [], alts := [], laidByText := true, laidKinds := [.data, .data], laidTests := true, laidLooks := .later }
def RoutesPreferFrontAndLeftCardSaid : Prop := Claim7.holds Tryd.pinned (.plain (OpenSpec.ofChange routesPreferFrontAndLeftSpec)) routesPreferFrontAndLeftCard

/-- THE TIED CARD OF 'floorlaw.ParkingOffAisles'. -/
def parkingOffAislesCard : Claim7 := { stood := { row := parkingOffAislesRow, standIns := [], harness := (true, "792d34e04c575a24e4b84daeaa34fb8114a097f3647e480ba80671a831ae0094"), looks := false }, kinds := [], alts := [], laidByText := true, laidKinds := [.data, .data], laidTests := true, laidLooks := .later }
def ParkingOffAislesCardSaid : Prop := Claim7.holds Tryd.pinned (.plain (OpenSpec.ofChange parkingOffAislesSpec)) parkingOffAislesCard

/-- THE TIED CARD OF 'floorlaw.EncodingRoundTrips'. -/
def encodingRoundTripsCard : Claim7 := { stood := { row := encodingRoundTripsRow, standIns := [], harness := (true, "792d34e04c575a24e4b84daeaa34fb8114a097f3647e480ba80671a831ae0094"), looks := false }, kinds := [], alts := [], laidByText := true, laidKinds := [.data], laidTests := true, laidLooks := .later }
def EncodingRoundTripsCardSaid : Prop := Claim7.holds Tryd.pinned (.plain (OpenSpec.ofChange encodingRoundTripsSpec)) encodingRoundTripsCard

/-- THE TIED CARD OF 'floorlaw.HelpersAgree'. -/
def helpersAgreeCard : Claim7 := { stood := { row := helpersAgreeRow, standIns := [], harness := (true, "792d34e04c575a24e4b84daeaa34fb8114a097f3647e480ba80671a831ae0094"), looks := false }, kinds := [], alts := [], laidByText := true, laidKinds := [.data, .data], laidTests := true, laidLooks := .later }
def HelpersAgreeCardSaid : Prop := Claim7.holds Tryd.pinned (.plain (OpenSpec.ofChange helpersAgreeSpec)) helpersAgreeCard

/-- THE TIED CARD OF 'floorlaw.StandardLayoutsAccepted'. -/
def standardLayoutsAcceptedCard : Claim7 := { stood := { row := standardLayoutsAcceptedRow, standIns := [], harness := (true, "792d34e04c575a24e4b84daeaa34fb8114a097f3647e480ba80671a831ae0094"), looks := false }, kinds := [], alts := [], laidByText := true, laidKinds := [.data], laidTests := true, laidLooks := .later }
def StandardLayoutsAcceptedCardSaid : Prop := Claim7.holds Tryd.pinned (.plain (OpenSpec.ofChange standardLayoutsAcceptedSpec)) standardLayoutsAcceptedCard
end Rows
end Go.Proofs.Qxb6500715aDoor
