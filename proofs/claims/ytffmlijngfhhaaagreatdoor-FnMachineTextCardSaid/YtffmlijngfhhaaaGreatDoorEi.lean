/- The program's decimals and texts of deeds as contracts over data. Condition: the table of FormatInt reads as its initialiser lays it. -/
import Derived.Test.YtffmlijngfhhaaaGreatDoorDt
import Derived.Test.YtffmlijngfhhaaaGreatDoorFi
namespace Go.Proofs.YtffmlijngfhhaaaGreatDoor
open Go Go.Proofs Go.RowKit Go.Lib
set_option linter.unusedVariables false
set_option linter.unusedSimpArgs false
theorem dd_growE (w : World) (k : Nat) (os : Array Obj) : Below w.heap.size w (Sort.grow (w.drewN k) os) :=
  ⟨rfl, rfl, rfl, by show w.heap.size ≤ (w.heap ++ os).size; rw [Array.size_append]; omega, fun j hj => by rw [Sort.heap_grow_old _ _ (by simpa using hj)]; rfl⟩
set_option maxRecDepth 100000 in
theorem c_decimalE (w : World) (n : Int) (h : 0 ≤ n ∧ n ≤ 1000000000) (ht : EnvAt Tryz.prog w) : Calls Tryz.prog 49 #[.int .i64 n] w fun e w' => e = .returned (.string ⟨(itoa n).toArray⟩) ∧ Below w.heap.size w w' := by
  have hf := Any.strconv_FormatInt_10 fmiM n (by omega) (by omega) w ht.1
  go_enter Tryz.func49, Tryz.ntmps49
  go_wp2_with (go_at_call 120; refine hf.mono ?_; rintro e W1 ⟨rfl, k, os, rfl⟩)
  go_ret
  exact ⟨rfl, dd_growE w k os⟩
theorem impl_decimal {n : Int} (h : 0 ≤ n ∧ n ≤ 1000000000) : AC Tryz.prog 49 [.int .i64 n] (.str (itoa n)) := by
  refine ⟨⟨_, Tryz.func49, by kernel_rfl, by kernel_rfl⟩, fun w ok vs he hok hr => ?_⟩
  obtain ⟨hs, hr⟩ := hr
  obtain ⟨v0, rfl⟩ : ∃ v0, vs = #[v0] := by
    obtain ⟨x⟩ := vs
    match x, hs with
    | [a], _ => exact ⟨a, rfl⟩
  have h0 := (hr 0 v0 _ rfl rfl).int_inv
  subst h0
  refine (c_decimalE w n h he).mono ?_
  rintro e w' ⟨rfl, hb⟩
  exact ⟨_, rfl, .str _ _ rfl, hb⟩
end Go.Proofs.YtffmlijngfhhaaaGreatDoor

namespace Go.Proofs.YtffmlijngfhhaaaGreatDoor
open Go
attribute [local irreducible] awp awpL awpQL awpQ awpM pWalk Qt AC thenQ blockQ loopQ OpTo
set_option linter.unusedVariables false
set_option linter.unusedSimpArgs false
set_option maxHeartbeats 2000000
attribute [local irreducible] HC
open Go.Lib (itoa decDigits)
end Go.Proofs.YtffmlijngfhhaaaGreatDoor
