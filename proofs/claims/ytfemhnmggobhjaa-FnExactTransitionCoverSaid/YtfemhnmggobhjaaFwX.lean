/- A row of one's own is put into the place from which a row was taken. No condition. -/
import Derived.Test.YtfemhnmggobhjaaFwT
namespace Go.Proofs.Ytfemhnmggobhjaa
open Go
open Go.RowKit (Below)
set_option linter.unusedVariables false
set_option linter.unusedSimpArgs false
section
variable {cx : Cx} {ops : Array Oper} {s : Slots} {h : Heap} {Q : Exit → Slots → Heap → Prop} {dst : Option Nat} {t ty : Nat} {pos : String} {af : Array Edge} {gd : Option (Nat × Bool)}

/-- The heap in another order. -/
theorem awp_permTo {cx : Cx} {c : Code} {s : Slots} {h : Heap} {Q : Exit → Slots → Heap → Prop} (H0 : Heap) (hp : sortH h = sortH H0) (hn : awp cx c s H0 Q) : awp cx c s h Q := fun a w hr => hn a w (R_perm ((perm_of_sort hp).trans (perm_of_sort (rfl : sortH H0 = sortH H0)).symm) hr)

end
end Go.Proofs.Ytfemhnmggobhjaa
