/- A row of one's own is put into the place from which a row was taken. No condition. -/
import Derived.Test.YtffmlijngfhhaaaDoorFwT
namespace Go.Proofs.YtffmlijngfhhaaaDoor
open Go
open Go.RowKit (Below)
set_option linter.unusedVariables false
set_option linter.unusedSimpArgs false
section
variable {cx : Cx} {ops : Array Oper} {s : Slots} {h : Heap} {Q : Exit → Slots → Heap → Prop} {dst : Option Nat} {t ty : Nat} {pos : String} {af : Array Edge} {gd : Option (Nat × Bool)}

end
end Go.Proofs.YtffmlijngfhhaaaDoor

/-! Rows with tags: a row of rows of one's own is read as data whose rows bear the number of their blocks; at the end what bears numbers may be one's own again. No condition. -/
namespace Go.Proofs.YtffmlijngfhhaaaDoor
open Go
open Go.RowKit (Below)
set_option linter.unusedVariables false
set_option linter.unusedSimpArgs false

/-! ### Tags may be forgotten -/
/-! ### Tags -/
section
variable {cx : Cx} {ops : Array Oper} {s : Slots} {h : Heap} {Q : Exit → Slots → Heap → Prop}

/-! ### At the end -/
/-! ### One row gets a tag -/
end
end Go.Proofs.YtffmlijngfhhaaaDoor
