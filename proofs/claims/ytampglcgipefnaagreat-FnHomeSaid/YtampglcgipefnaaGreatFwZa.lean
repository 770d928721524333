/- Regions that draw their order and have a tail that waits for all: the head by a plan, the tail one behind the other. No condition. -/
import Derived.Test.YtampglcgipefnaaGreatFwZ
namespace Go.Proofs.YtampglcgipefnaaGreat
open Go
open Go.RowKit (Below)
set_option linter.unusedVariables false
set_option linter.unusedSimpArgs false

section
variable {cx : Cx} {ops : Array Oper}

end

/-! ### Maps with tagged rows -/
end Go.Proofs.YtampglcgipefnaaGreat
