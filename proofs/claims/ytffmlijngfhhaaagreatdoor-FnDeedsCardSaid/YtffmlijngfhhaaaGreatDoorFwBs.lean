/- A struct literal with structs in it that hold memory of one's own. No condition. -/
import Derived.Test.YtffmlijngfhhaaaGreatDoorFwX
namespace Go.Proofs.YtffmlijngfhhaaaGreatDoor
open Go
open Go.RowKit (Below)
set_option linter.unusedVariables false
set_option linter.unusedSimpArgs false

section
variable {cx : Cx} {h : Heap} {dst : Option Nat} {t ty : Nat} {pos : String} {af : Array Edge} {gd : Option (Nat × Bool)}
end
theorem awpL_toG {cx : Cx} {ops : Array Oper} {rest : List Oper} {s s' : Slots} {h h' : Heap} {Q : Exit → Slots → Heap → Prop} {dst : Option Nat} {op : Op} {ty : Nat} {pos : String} {af : Array Edge} {gd : Nat × Bool} (hw : wantedA ops ⟨dst, op, ty, pos, af, some gd⟩ (lk s) = some true) (ho : OpTo cx ⟨dst, op, ty, pos, af, none⟩ s h s' h') (hn : awpL cx ops rest s' h' Q) :
    awpL cx ops (⟨dst, op, ty, pos, af, some gd⟩ :: rest) s h Q := fun a w hr => by
  unfold wpList
  rw [if_pos (by obtain ⟨σ, hr⟩ := hr; exact wanted_of hr hw)]
  exact .inl (ho a w hr _ _ fun a' w' hr' => hn a' w' hr')
/-- A call that turns what is handed to it, under a guard that holds. -/
theorem hclG {cx : Cx} {ops : Array Oper} {rest : List Oper} {s : Slots} {h : Heap} {Q : Exit → Slots → Heap → Prop} {t ty : Nat} {pos : String} {af : Array Edge} {gd : Nat × Bool} {f : Operand} {args : Array Operand} {tys : Array TypeId} {g : Nat} {cap ss : List SV} {hh : Heap} {r : SV} {hh' : Heap} (R1 R2 : List (Nat × Nat)) (hc : HC cx.P g ss hh r hh') (hn : awpL cx ops rest ((t, r.ren R2) :: mapS (SV.kill (movedIds R1 R2)) s) (renH R2 hh' ++ keepH (SV.kill (movedIds R1 R2)) (allIds R1 R2) h) Q)
    (hw : wantedA ops ⟨some t, .call { callee := .value f, args := args, argTypes := tys }, ty, pos, af, some gd⟩ (lk s) = some true := by exact rfl) (hf : fnv (opv (lk s) f) = some (g, cap) := by exact rfl) (ha : SV.rens R1 (args.toList.map (opv (lk s)) ++ cap) = ss := by exact rfl) (hp : pickH R1 h = some hh := by exact rfl) (hcall : callOk R1 R2 hh' = true := by exact rfl) (hd : Nat.blt t cx.nt = true := by exact rfl) :
    awpL cx ops (⟨some t, .call { callee := .value f, args := args, argTypes := tys }, ty, pos, af, some gd⟩ :: rest) s h Q := awpL_toG hw (op_hcall R1 R2 hf ha hp hc hcall hd) hn
end Go.Proofs.YtffmlijngfhhaaaGreatDoor
