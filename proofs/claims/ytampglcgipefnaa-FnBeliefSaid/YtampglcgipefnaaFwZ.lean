/- Contracts whose answer hangs on something that only the call decides. Printed by genfwz.py. No condition. -/
import Derived.Test.YtampglcgipefnaaFwQ
namespace Go.Proofs.Ytampglcgipefnaa
open Go
open Go.RowKit (Below)
set_option linter.unusedVariables false
set_option linter.unusedSimpArgs false

section
variable {cx : Cx} {ops : Array Oper} {rest : List Oper} {s : Slots} {h : Heap} {Q : Exit → Slots → Heap → Prop}
end

end Go.Proofs.Ytampglcgipefnaa
