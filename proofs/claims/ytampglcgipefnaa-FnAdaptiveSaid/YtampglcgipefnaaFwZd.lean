/- A variable's cell that says less. No condition. -/
import Derived.Test.YtampglcgipefnaaFwQ
import Derived.Test.YtampglcgipefnaaFwZb
namespace Go.Proofs.Ytampglcgipefnaa
open Go
open Go.RowKit (Below)
set_option linter.unusedVariables false
set_option linter.unusedSimpArgs false
section
variable {cx : Cx} {ops : Array Oper} {s : Slots} {h : Heap} {Q : Exit → Slots → Heap → Prop}

end
end Go.Proofs.Ytampglcgipefnaa

/-! A field of a struct in a row of one's own. No condition. -/
namespace Go.Proofs.Ytampglcgipefnaa
open Go
open Go.RowKit (Below)
set_option linter.unusedVariables false
set_option linter.unusedSimpArgs false
section
variable {cx : Cx} {ops : Array Oper} {s : Slots} {h : Heap} {Q : Exit → Slots → Heap → Prop} {dst : Option Nat} {t ty : Nat} {pos : String} {af : Array Edge} {gd : Option (Nat × Bool)}

end
end Go.Proofs.Ytampglcgipefnaa
