/- Rows of one's own that are made shorter, cleared behind a place, or grown by zeros. No condition. -/
import Derived.Test.YtffmlijngfhhaaaDoorFwX
import Derived.Laws.Slices
namespace Go.Proofs.YtffmlijngfhhaaaDoor
open Go
open Go.RowKit (Below)
set_option linter.unusedVariables false
set_option linter.unusedSimpArgs false

theorem RepCells.take {ok : Nat → Prop} {w : World} {sz : Nat} {cl : List Value} {xs : List D} (h : RepCells ok w sz cl xs) {k : Nat} (hk : k ≤ xs.length) : RepCells ok w sz (cl.take (k * sz)) (xs.take k) := by
  obtain ⟨h1, vs, h2, h3, h4⟩ := h
  have hle : k * sz ≤ xs.length * sz := Nat.mul_le_mul_right _ hk
  refine ⟨by rw [List.length_take, List.length_take, h1]; rw [Nat.min_eq_left hk, Nat.min_eq_left hle], vs.take k, by simp [h2], fun i v x hv hx => ?_, fun i v hv => ?_⟩
  · rw [List.getElem?_take] at hv hx
    split at hv
    · rename_i hi
      rw [if_pos hi] at hx
      exact h3 i v x hv hx
    · cases hv
  · rw [List.getElem?_take] at hv
    split at hv
    · rename_i hi
      obtain ⟨c1, c2⟩ := h4 i v hv
      refine ⟨c1, fun j hj => ?_⟩
      have : (i + 1) * sz ≤ k * sz := Nat.mul_le_mul_right _ hi
      rw [Nat.add_mul] at this
      rw [List.getElem?_take, if_pos (by omega)]
      exact c2 j hj
    · cases hv

theorem RepCells.one {ok : Nat → Prop} {w : World} {sz : Nat} {cl : List Value} {xs : List D} (h : RepCells ok w sz cl xs) (h0 : 0 < sz) (hel : ∀ x ∈ xs, x.el = true) : ∀ u ∈ cl, u.oneCell' = true := fun u hu => by
  obtain ⟨h1, vs, h2, h3, h4⟩ := h
  obtain ⟨m, hm, e⟩ := List.getElem_of_mem hu
  have hd : m / sz < xs.length := Nat.div_lt_of_lt_mul (by rw [Nat.mul_comm, ← h1]; exact hm)
  have hv : vs[m / sz]? = some (vs[m / sz]'(by omega)) := List.getElem?_eq_getElem (by omega)
  have hx : xs[m / sz]? = some (xs[m / sz]'hd) := List.getElem?_eq_getElem hd
  obtain ⟨c1, c2⟩ := h4 _ _ hv
  have hc := c2 (m % sz) (Nat.mod_lt _ h0)
  rw [show m / sz * sz + m % sz = m by rw [Nat.mul_comm]; exact Nat.div_add_mod m sz, List.getElem?_eq_getElem hm, e] at hc
  refine (h3 _ _ _ hv hx).cellOne (hel _ (List.getElem_mem hd)) u ?_
  have hlt := Nat.mod_lt m h0
  rw [Array.getElem?_eq_getElem (by omega)] at hc
  rw [Option.some.inj hc]
  exact Array.getElem_mem_toList _

section
variable {cx : Cx} {ops : Array Oper} {rest : List Oper} {s : Slots} {h : Heap} {Q : Exit → Slots → Heap → Prop} {dst : Option Nat} {t ty : Nat} {pos : String} {af : Array Edge} {gd : Option (Nat × Bool)}

end
end Go.Proofs.YtffmlijngfhhaaaDoor

/-! A part of one's own row from a place on: slicing, length, elements. No condition. -/
namespace Go.Proofs.YtffmlijngfhhaaaDoor
open Go
open Go.RowKit (Below)
set_option linter.unusedVariables false
set_option linter.unusedSimpArgs false

section
variable {cx : Cx} {ops : Array Oper} {rest : List Oper} {s : Slots} {h : Heap} {Q : Exit → Slots → Heap → Prop} {dst : Option Nat} {t ty : Nat} {pos : String} {af : Array Edge} {gd : Option (Nat × Bool)}

/-! ### A slice without room -/
end

/-! ### Guards that are known -/
section
variable {cx : Cx} {ops : Array Oper} {rest : List Oper} {s : Slots} {h : Heap} {Q : Exit → Slots → Heap → Prop} {K : Slots → Prop}
theorem u_glt {o : Oper} {j t : Nat} {want b : Bool} (h1 : awpL cx ops (o :: rest) ((t, .d (.bool true)) :: s) h Q) (hg : o.guard = some (j, want) := by exact rfl) (hj : (ops[j]?).bind (·.dst) = some t := by exact rfl) (hb : lk s t = .d (.bool b) := by exact rfl) (hv : b = true := by ((fail_if_success (exact rfl)); first | assumption | (simp; omega) | (simp; done) | fail)) : awpL cx ops (o :: rest) s h Q := awpL_split hg hj hb (fun e => by first | exact h1 | (rw [hv] at e; cases e)) (fun e => by first | exact h1 | (rw [hv] at e; cases e))
theorem u_gqt {o : Oper} {j t : Nat} {want b : Bool} (h1 : awpQL cx ops h K (o :: rest) ((t, .d (.bool true)) :: s)) (hg : o.guard = some (j, want) := by exact rfl) (hj : (ops[j]?).bind (·.dst) = some t := by exact rfl) (hb : lk s t = .d (.bool b) := by exact rfl) (hv : b = true := by ((fail_if_success (exact rfl)); first | assumption | (simp; omega) | (simp; done) | fail)) : awpQL cx ops h K (o :: rest) s := awpQL_split hg hj hb (fun e => by first | exact h1 | (rw [hv] at e; cases e)) (fun e => by first | exact h1 | (rw [hv] at e; cases e))
theorem u_glf {o : Oper} {j t : Nat} {want b : Bool} (h1 : awpL cx ops (o :: rest) ((t, .d (.bool false)) :: s) h Q) (hg : o.guard = some (j, want) := by exact rfl) (hj : (ops[j]?).bind (·.dst) = some t := by exact rfl) (hb : lk s t = .d (.bool b) := by exact rfl) (hv : b = false := by ((fail_if_success (exact rfl)); first | assumption | (simp; omega) | (simp; done) | fail)) : awpL cx ops (o :: rest) s h Q := awpL_split hg hj hb (fun e => by first | exact h1 | (rw [hv] at e; cases e)) (fun e => by first | exact h1 | (rw [hv] at e; cases e))
theorem u_gqf {o : Oper} {j t : Nat} {want b : Bool} (h1 : awpQL cx ops h K (o :: rest) ((t, .d (.bool false)) :: s)) (hg : o.guard = some (j, want) := by exact rfl) (hj : (ops[j]?).bind (·.dst) = some t := by exact rfl) (hb : lk s t = .d (.bool b) := by exact rfl) (hv : b = false := by ((fail_if_success (exact rfl)); first | assumption | (simp; omega) | (simp; done) | fail)) : awpQL cx ops h K (o :: rest) s := awpQL_split hg hj hb (fun e => by first | exact h1 | (rw [hv] at e; cases e)) (fun e => by first | exact h1 | (rw [hv] at e; cases e))
end
end Go.Proofs.YtffmlijngfhhaaaDoor

/-! A row of one's own from which something is taken out in place: the first elements of it, what stands behind them appended, the rest cleared. No condition. -/
namespace Go.Proofs.YtffmlijngfhhaaaDoor
open Go
open Go.RowKit (Below)
set_option linter.unusedVariables false
set_option linter.unusedSimpArgs false

theorem RepCells.drop {ok : Nat → Prop} {w : World} {sz : Nat} {cl : List Value} {xs : List D} (h : RepCells ok w sz cl xs) {k : Nat} (hk : k ≤ xs.length) : RepCells ok w sz (cl.drop (k * sz)) (xs.drop k) := by
  obtain ⟨h1, vs, h2, h3, h4⟩ := h
  refine ⟨by rw [List.length_drop, List.length_drop, h1, Nat.sub_mul], vs.drop k, by simp [h2], fun i v x hv hx => ?_, fun i v hv => ?_⟩
  · rw [List.getElem?_drop] at hv hx
    exact h3 _ v x hv hx
  · rw [List.getElem?_drop] at hv
    obtain ⟨c1, c2⟩ := h4 _ v hv
    refine ⟨c1, fun j hj => ?_⟩
    rw [List.getElem?_drop, ← c2 j hj]
    congr 1
    rw [Nat.add_mul]
    omega

section
variable {cx : Cx} {ops : Array Oper} {rest : List Oper} {s : Slots} {h : Heap} {Q : Exit → Slots → Heap → Prop} {dst : Option Nat} {t ty : Nat} {pos : String} {af : Array Edge} {gd : Option (Nat × Bool)}

end
end Go.Proofs.YtffmlijngfhhaaaDoor
