/- Maps whose keys are pairs of numbers: asked, written. No condition. -/
import Derived.Test.YtfemhnmggobhjaaGreatFwT
import Derived.Laws.StructEq
namespace Go.Proofs.YtfemhnmggobhjaaGreat
open Go
open Go.RowKit (Below)
set_option linter.unusedVariables false
set_option linter.unusedSimpArgs false
section
variable {P : Program} {t : Nat} {w : World}
end
section
variable {cx : Cx} {s : Slots} {h : Heap} {dst : Option Nat} {t ty : Nat} {pos : String} {af : Array Edge} {gd : Option (Nat × Bool)}
end
end Go.Proofs.YtfemhnmggobhjaaGreat
