/- Calls to which one's own memory is lent and which make memory of their own. No condition. -/
import Derived.Test.YtampglcgipefnaaGreatFwO
namespace Go.Proofs.YtampglcgipefnaaGreat
open Go
open Go.RowKit (Below)
set_option linter.unusedVariables false
set_option linter.unusedSimpArgs false

section
variable {cx : Cx} {ops : Array Oper} {rest : List Oper} {s : Slots} {H : Heap} {Q : Exit → Slots → Heap → Prop} {t ty : Nat} {pos : String} {af : Array Edge}

end
end Go.Proofs.YtampglcgipefnaaGreat
