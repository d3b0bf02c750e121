/- Walk of the reference's ReadHelds. No conditions but bounds. -/
import Derived.Test.YtdmlghfggninbaaGreatDoorBfM
import Derived.Test.YtdmlghfggninbaaGreatDoorMb7
import Derived.Test.YtdmlghfggninbaaGreatDoorMb0
set_option linter.unusedVariables false
set_option linter.unusedSimpArgs false
namespace Go.Proofs.YtdmlghfggninbaaGreatDoor
open Go.RowKit Go.Lib
end Go.Proofs.YtdmlghfggninbaaGreatDoor
