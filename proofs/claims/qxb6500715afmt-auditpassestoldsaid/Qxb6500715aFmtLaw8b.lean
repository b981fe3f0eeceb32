/-
  EncodingRoundTrips: the walk.
-/
import Derived.Test.Qxb6500715aFmtLaw8
namespace Go.Proofs.Qxb6500715aFmt
open Go.RowKit
set_option linter.unusedSimpArgs false
set_option linter.unusedVariables false

end Go.Proofs.Qxb6500715aFmt
