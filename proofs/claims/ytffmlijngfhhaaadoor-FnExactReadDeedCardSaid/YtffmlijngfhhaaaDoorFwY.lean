/- Parts of a list that is only read. No condition. -/
import Derived.Test.YtffmlijngfhhaaaDoorFwX
import Derived.Laws.Slices
namespace Go.Proofs.YtffmlijngfhhaaaDoor
open Go
open Go.RowKit (Below)
set_option linter.unusedVariables false
set_option linter.unusedSimpArgs false

section
variable {cx : Cx} {h : Heap} {s : Nat → SV} {dst : Option Nat} {ty : Nat} {pos : String} {af : Array Edge} {gd : Option (Nat × Bool)}

end
end Go.Proofs.YtffmlijngfhhaaaDoor
