/-
  NARROWER THAN 'FOR EVERY INPUT', by the rows' own cells (each row's printed sentence says how): AdjacencySound: laid · TablesAgree: laid · RoutesAreShortestWalks: laid · RoutesPreferFrontAndLeft: laid · ParkingOffAisles: laid · EncodingRoundTrips: laid · HelpersAgree: laid · StandardLayoutsAccepted: laid.
  DERIVED. THE GIVEN ROWS OF THIS SEAT. 8 by the template 'for every input the law returns true; each argument reads behind the call as it read before'; 0 by the template 'total and deterministic' (their statements: Qxb6500715aDoorTotals.lean).
  GIVEN WITH THE SEED: the statements are not yours to turn. If you find one false, say at which input.
  Laid BY PROGRAM, IN A SANDBOX (cutbox-rows.mjs): the forced cells as the released guide's own fill.sh prints them over the translation 34a8ff5367582b0c… (all of the seat's roots in one cut). By AI agents, Wed Nov 11 2026. No macro, syntax, notation, axiom, sorry.
-/
import Derived.Test.Qxb6500715aDoorChecked
import GoSem.Claim
import GoSem.ClaimJoined
import GoSem.ClaimMapViews
import Derived.JoinedTies
import Derived.KernelRfl
namespace Go.Proofs.Qxb6500715aDoor
/- THE CELL 'sum', in the pinned program and in every row, IS THE sha256 OF THE DUMP (.gsa) THAT Qxb6500715aDoorProg.lean LOADS. Nothing in Lean hashes anything: it is a label: what it is worth is what the hold of that sum in a sandbox is worth. -/
noncomputable def Tryd.pinned : Pinned := { name := "qxb6500715adoor", sum := "34a8ff5367582b0c21396d65e31042bd93d1dfae8c409a776b6bac8c19684044", checked := Tryd.checked }
namespace Rows
def none {H : Type} : Left H := { results := [], args := [] }

/- WHAT THE LISTED PACKAGE-LEVEL VARIABLES READ AS WHEN THE CALL BEGINS. Each datum BY PROGRAM (the guide's laid-datum.mjs) off the statement by which the dump's own 'gosem.cut.vars' lays the variable. In a bare row this is a premise. The card (Qxb6500715aDoorCards.lean) ties it to the program's text. -/
def laid_e2e_floor_scanDirs {H : Type} : DataW H := .agg [.lit (.int .i64 1), .lit (.int .i64 2), .lit (.int .i64 3), .lit (.int .i64 4)]
def laid_e2e_floor_accepted {H : Type} : DataW H := .agg [.lit (.int .u8 0), .lit (.int .i64 0)]

/-- 'floorlaw.AdjacencySound': WHATEVER THE INPUT: true; the input reads as it did. -/
def adjacencySoundSpec : ChangeSpec := { name := "adjacencySound", fn := fun _ => fun
  | [d] => { results := [.lit (.bool true)], args := [d] }
  | _ => none }
def adjacencySoundRow : OpenClaim := { program := "qxb6500715adoor", sum := "34a8ff5367582b0c21396d65e31042bd93d1dfae8c409a776b6bac8c19684044", func := "e2e/floorlaw.AdjacencySound", spec := "adjacencySound", unfollowed := true, recurses := true, named := ["e2e/floor.accepted", "e2e/floor.scanDirs"], apart := false, laid := [("e2e/floor.scanDirs", laid_e2e_floor_scanDirs), ("e2e/floor.accepted", laid_e2e_floor_accepted)] }
def AdjacencySoundSaid : Prop := adjacencySoundRow.holds Tryd.pinned (OpenSpec.ofChange adjacencySoundSpec)

/-- ITS FALSE NEIGHBOUR: 'it returns false'. Refute it at one input. -/
def adjacencySoundWrong : ChangeSpec := { name := "adjacencySound", fn := fun _ => fun
  | [d] => { results := [.lit (.bool false)], args := [d] }
  | _ => none }
def AdjacencySoundWrongFalsely : Prop := adjacencySoundRow.holds Tryd.pinned (OpenSpec.ofChange adjacencySoundWrong)

/-- 'floorlaw.TablesAgree': WHATEVER THE INPUT: true; the input reads as it did. -/
def tablesAgreeSpec : ChangeSpec := { name := "tablesAgree", fn := fun _ => fun
  | [d] => { results := [.lit (.bool true)], args := [d] }
  | _ => none }
def tablesAgreeRow : OpenClaim := { program := "qxb6500715adoor", sum := "34a8ff5367582b0c21396d65e31042bd93d1dfae8c409a776b6bac8c19684044", func := "e2e/floorlaw.TablesAgree", spec := "tablesAgree", named := ["e2e/floor.accepted", "e2e/floor.scanDirs"], apart := false, laid := [("e2e/floor.scanDirs", laid_e2e_floor_scanDirs), ("e2e/floor.accepted", laid_e2e_floor_accepted)] }
def TablesAgreeSaid : Prop := tablesAgreeRow.holds Tryd.pinned (OpenSpec.ofChange tablesAgreeSpec)

/-- ITS FALSE NEIGHBOUR: 'it returns false'. Refute it at one input. -/
def tablesAgreeWrong : ChangeSpec := { name := "tablesAgree", fn := fun _ => fun
  | [d] => { results := [.lit (.bool false)], args := [d] }
  | _ => none }
def TablesAgreeWrongFalsely : Prop := tablesAgreeRow.holds Tryd.pinned (OpenSpec.ofChange tablesAgreeWrong)

/-- 'floorlaw.RoutesAreShortestWalks': WHATEVER THE INPUT: true; the input reads as it did. -/
def routesAreShortestWalksSpec : ChangeSpec := { name := "routesAreShortestWalks", fn := fun _ => fun
  | [d] => { results := [.lit (.bool true)], args := [d] }
  | _ => none }
def routesAreShortestWalksRow : OpenClaim := { program := "qxb6500715adoor", sum := "34a8ff5367582b0c21396d65e31042bd93d1dfae8c409a776b6bac8c19684044", func := "e2e/floorlaw.RoutesAreShortestWalks", spec := "routesAreShortestWalks", named := ["e2e/floor.accepted", "e2e/floor.scanDirs"], apart := false, laid := [("e2e/floor.scanDirs", laid_e2e_floor_scanDirs), ("e2e/floor.accepted", laid_e2e_floor_accepted)] }
def RoutesAreShortestWalksSaid : Prop := routesAreShortestWalksRow.holds Tryd.pinned (OpenSpec.ofChange routesAreShortestWalksSpec)

/-- ITS FALSE NEIGHBOUR: 'it returns false'. Refute it at one input. -/
def routesAreShortestWalksWrong : ChangeSpec := { name := "routesAreShortestWalks", fn := fun _ => fun
  | [d] => { results := [.lit (.bool false)], args := [d] }
  | _ => none }
def RoutesAreShortestWalksWrongFalsely : Prop := routesAreShortestWalksRow.holds Tryd.pinned (OpenSpec.ofChange routesAreShortestWalksWrong)

/-- 'floorlaw.RoutesPreferFrontAndLeft': WHATEVER THE INPUT: true; the input reads as it did. -/
def routesPreferFrontAndLeftSpec : ChangeSpec := { name := "routesPreferFrontAndLeft", fn := fun _ => fun
  | [d] => { results := [.lit (.bool true)], args := [d] }
  | _ => none }
def routesPreferFrontAndLeftRow : OpenClaim := { program := "qxb6500715adoor", sum := "34a8ff5367582b0c21396d65e31042bd93d1dfae8c409a776b6bac8c19684044", func := "e2e/floorlaw.RoutesPreferFrontAndLeft", spec := "routesPreferFrontAndLeft", named := ["e2e/floor.accepted", "e2e/floor.scanDirs"], apart := false, laid := [("e2e/floor.scanDirs", laid_e2e_floor_scanDirs), ("e2e/floor.accepted", laid_e2e_floor_accepted)] }
def RoutesPreferFrontAndLeftSaid : Prop := routesPreferFrontAndLeftRow.holds Tryd.pinned (OpenSpec.ofChange routesPreferFrontAndLeftSpec)

/-- ITS FALSE NEIGHBOUR: 'it returns false'. Refute it at one input. -/
def routesPreferFrontAndLeftWrong : ChangeSpec := { name := "routesPreferFrontAndLeft", fn := fun _ => fun
  | [d] => { results := [.lit (.bool false)], args := [d] }
  | _ => none }
def RoutesPreferFrontAndLeftWrongFalsely : Prop := routesPreferFrontAndLeftRow.holds Tryd.pinned (OpenSpec.ofChange routesPreferFrontAndLeftWrong)

/-- 'floorlaw.ParkingOffAisles': WHATEVER THE INPUT: true; the input reads as it did. -/
def parkingOffAislesSpec : ChangeSpec := { name := "parkingOffAisles", fn := fun _ => fun
  | [d] => { results := [.lit (.bool true)], args := [d] }
  | _ => none }
def parkingOffAislesRow : OpenClaim := { program := "qxb6500715adoor", sum := "34a8ff5367582b0c21396d65e31042bd93d1dfae8c409a776b6bac8c19684044", func := "e2e/floorlaw.ParkingOffAisles", spec := "parkingOffAisles", unfollowed := true, recurses := true, named := ["e2e/floor.accepted", "e2e/floor.scanDirs"], apart := false, laid := [("e2e/floor.scanDirs", laid_e2e_floor_scanDirs), ("e2e/floor.accepted", laid_e2e_floor_accepted)] }
def ParkingOffAislesSaid : Prop := parkingOffAislesRow.holds Tryd.pinned (OpenSpec.ofChange parkingOffAislesSpec)

/-- ITS FALSE NEIGHBOUR: 'it returns false'. Refute it at one input. -/
def parkingOffAislesWrong : ChangeSpec := { name := "parkingOffAisles", fn := fun _ => fun
  | [d] => { results := [.lit (.bool false)], args := [d] }
  | _ => none }
def ParkingOffAislesWrongFalsely : Prop := parkingOffAislesRow.holds Tryd.pinned (OpenSpec.ofChange parkingOffAislesWrong)

/-- 'floorlaw.EncodingRoundTrips': WHATEVER THE INPUT: true; the input reads as it did. -/
def encodingRoundTripsSpec : ChangeSpec := { name := "encodingRoundTrips", fn := fun _ => fun
  | [d] => { results := [.lit (.bool true)], args := [d] }
  | _ => none }
def encodingRoundTripsRow : OpenClaim := { program := "qxb6500715adoor", sum := "34a8ff5367582b0c21396d65e31042bd93d1dfae8c409a776b6bac8c19684044", func := "e2e/floorlaw.EncodingRoundTrips", spec := "encodingRoundTrips", named := ["e2e/floor.accepted"], apart := false, laid := [("e2e/floor.accepted", laid_e2e_floor_accepted)] }
def EncodingRoundTripsSaid : Prop := encodingRoundTripsRow.holds Tryd.pinned (OpenSpec.ofChange encodingRoundTripsSpec)

/-- ITS FALSE NEIGHBOUR: 'it returns false'. Refute it at one input. -/
def encodingRoundTripsWrong : ChangeSpec := { name := "encodingRoundTrips", fn := fun _ => fun
  | [d] => { results := [.lit (.bool false)], args := [d] }
  | _ => none }
def EncodingRoundTripsWrongFalsely : Prop := encodingRoundTripsRow.holds Tryd.pinned (OpenSpec.ofChange encodingRoundTripsWrong)

/-- 'floorlaw.HelpersAgree': WHATEVER THE INPUT: true; the input reads as it did. -/
def helpersAgreeSpec : ChangeSpec := { name := "helpersAgree", fn := fun _ => fun
  | [d] => { results := [.lit (.bool true)], args := [d] }
  | _ => none }
def helpersAgreeRow : OpenClaim := { program := "qxb6500715adoor", sum := "34a8ff5367582b0c21396d65e31042bd93d1dfae8c409a776b6bac8c19684044", func := "e2e/floorlaw.HelpersAgree", spec := "helpersAgree", named := ["e2e/floor.accepted", "e2e/floor.scanDirs"], apart := false, laid := [("e2e/floor.scanDirs", laid_e2e_floor_scanDirs), ("e2e/floor.accepted", laid_e2e_floor_accepted)] }
def HelpersAgreeSaid : Prop := helpersAgreeRow.holds Tryd.pinned (OpenSpec.ofChange helpersAgreeSpec)

/-- ITS FALSE NEIGHBOUR: 'it returns false'. Refute it at one input. -/
def helpersAgreeWrong : ChangeSpec := { name := "helpersAgree", fn := fun _ => fun
  | [d] => { results := [.lit (.bool false)], args := [d] }
  | _ => none }
def HelpersAgreeWrongFalsely : Prop := helpersAgreeRow.holds Tryd.pinned (OpenSpec.ofChange helpersAgreeWrong)

/-- 'floorlaw.StandardLayoutsAccepted': WHATEVER THE INPUT: true; the input reads as it did. -/
def standardLayoutsAcceptedSpec : ChangeSpec := { name := "standardLayoutsAccepted", fn := fun _ => fun
  | [] => { results := [.lit (.bool true)], args := [] }
  | _ => none }
def standardLayoutsAcceptedRow : OpenClaim := { program := "qxb6500715adoor", sum := "34a8ff5367582b0c21396d65e31042bd93d1dfae8c409a776b6bac8c19684044", func := "e2e/floorlaw.StandardLayoutsAccepted", spec := "standardLayoutsAccepted", named := ["e2e/floor.accepted"], apart := false, laid := [("e2e/floor.accepted", laid_e2e_floor_accepted)] }
def StandardLayoutsAcceptedSaid : Prop := standardLayoutsAcceptedRow.holds Tryd.pinned (OpenSpec.ofChange standardLayoutsAcceptedSpec)

/-- ITS FALSE NEIGHBOUR: 'it returns false'. Refute it at one input. -/
def standardLayoutsAcceptedWrong : ChangeSpec := { name := "standardLayoutsAccepted", fn := fun _ => fun
  | [] => { results := [.lit (.bool false)], args := [] }
  | _ => none }
def StandardLayoutsAcceptedWrongFalsely : Prop := standardLayoutsAcceptedRow.holds Tryd.pinned (OpenSpec.ofChange standardLayoutsAcceptedWrong)

end Rows
end Go.Proofs.Qxb6500715aDoor
