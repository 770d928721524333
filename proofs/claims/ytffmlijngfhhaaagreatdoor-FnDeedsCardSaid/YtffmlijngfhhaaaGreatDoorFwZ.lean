/- Contracts whose answer hangs on something that only the call decides. Printed by genfwz.py. No condition. -/
import Derived.Test.YtffmlijngfhhaaaGreatDoorFwX
namespace Go.Proofs.YtffmlijngfhhaaaGreatDoor
open Go
open Go.RowKit (Below)
set_option linter.unusedVariables false
set_option linter.unusedSimpArgs false

section
variable {cx : Cx} {ops : Array Oper} {rest : List Oper} {s : Slots} {h : Heap} {Q : Exit → Slots → Heap → Prop}
end

end Go.Proofs.YtffmlijngfhhaaaGreatDoor

/-! Regions that draw their order and have a tail that waits for all: the head by a plan, the tail one behind the other. No condition. -/
namespace Go.Proofs.YtffmlijngfhhaaaGreatDoor
open Go
open Go.RowKit (Below)
set_option linter.unusedVariables false
set_option linter.unusedSimpArgs false

section
variable {cx : Cx} {ops : Array Oper}

end

/-! ### Maps with tagged rows -/
end Go.Proofs.YtffmlijngfhhaaaGreatDoor
