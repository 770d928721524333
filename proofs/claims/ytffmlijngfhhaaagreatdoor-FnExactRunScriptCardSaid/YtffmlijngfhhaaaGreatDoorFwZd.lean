/- A variable's cell that says less. No condition. -/
import Derived.Test.YtffmlijngfhhaaaGreatDoorFwX
import Derived.Test.YtffmlijngfhhaaaGreatDoorFwW
namespace Go.Proofs.YtffmlijngfhhaaaGreatDoor
open Go
open Go.RowKit (Below)
set_option linter.unusedVariables false
set_option linter.unusedSimpArgs false
section
variable {cx : Cx} {ops : Array Oper} {s : Slots} {h : Heap} {Q : Exit → Slots → Heap → Prop}

theorem R_cellLe {a : Act} {w : World} {id off : Nat} {cells : List SV} {x y : D} (hr : R cx (lk s) h a w) (hg : h.get id = some (.box cells)) (hc : cells[off]? = some (.d x)) (hl : D.Le x y) :
    R cx (lk s) (setH id (.box (cells.set off (.d y))) h) a w := by
  obtain ⟨σ, hr⟩ := hr
  have hlike : (Chunk.box cells).like (.box (cells.set off (.d y))) := by simp [Chunk.like]
  refine ⟨σ, hr.set (w' := w) hg hlike rfl rfl rfl rfl (fun _ _ => rfl) fun hok => ?_⟩
  obtain ⟨p, hp, hp1, hp2⟩ := get_mem hg
  have hrep := hr.heap.rep p hp
  rw [hp2, hp1] at hrep
  obtain ⟨h0, cs, t, h1, h2, h3⟩ := hrep
  refine ⟨h0, cs, t, h1, by simpa using h2, fun i v x' hv hx => ?_⟩
  by_cases e : i = off
  · subst e
    have hlt : i < cells.length := by
      rcases Nat.lt_or_ge i cells.length with hh | hh
      · exact hh
      · simp [hh] at hc
    rw [List.getElem?_set_self hlt] at hx
    cases hx
    obtain ⟨k1, k2⟩ := h3 i v _ hv hc
    have k1 : RepD (okf cx σ h) w v x := k1
    exact ⟨(k1.le hl).mono hok, k2⟩
  · rw [List.getElem?_set_ne (by omega)] at hx
    obtain ⟨k1, k2⟩ := h3 i v x' hv hx
    exact ⟨RepSV.set k1 hg hlike hok, k2⟩
theorem awp_cellLe {c : Code} (id off : Nat) {cells : List SV} {x y : D} (hg : h.get id = some (.box cells)) (hc : cells[off]? = some (.d x)) (hl : D.Le x y) (hn : awp cx c s (setH id (.box (cells.set off (.d y))) h) Q) : awp cx c s h Q := fun a w hr => hn a w (R_cellLe hr hg hc hl)
end
end Go.Proofs.YtffmlijngfhhaaaGreatDoor

/-! A field of a struct in a row of one's own. No condition. -/
namespace Go.Proofs.YtffmlijngfhhaaaGreatDoor
open Go
open Go.RowKit (Below)
set_option linter.unusedVariables false
set_option linter.unusedSimpArgs false
section
variable {cx : Cx} {ops : Array Oper} {s : Slots} {h : Heap} {Q : Exit → Slots → Heap → Prop} {dst : Option Nat} {t ty : Nat} {pos : String} {af : Array Edge} {gd : Option (Nat × Bool)}

end
end Go.Proofs.YtffmlijngfhhaaaGreatDoor
