/- The reference's texts of deeds. No condition. -/
import Derived.Test.YtffmlijngfhhaaaGreatDoorWa
import Derived.Test.YtffmlijngfhhaaaGreatDoorFwW
import Derived.Lib.ItoaMem
namespace Go.Proofs.YtffmlijngfhhaaaGreatDoor
open Go
attribute [local irreducible] awp awpL awpQL awpQ awpM pWalk Qt AC thenQ blockQ loopQ OpTo
set_option linter.unusedVariables false
set_option linter.unusedSimpArgs false
set_option maxHeartbeats 2000000
open Go.Lib (itoa decDigits)

theorem itoa_small {n : Int} (h : 0 ≤ n ∧ n < 10) : itoa n = [UInt8.ofNat (48 + n).toNat] := by
  obtain ⟨k, rfl⟩ := Int.eq_ofNat_of_zero_le h.1
  rw [Go.Lib.itoa_nonneg, decDigits, dif_pos (by omega)]
  congr 2
theorem itoa_big {n : Int} (h : 10 ≤ n) : itoa n = itoa (n / 10) ++ [UInt8.ofNat (48 + n % 10).toNat] := by
  obtain ⟨k, rfl⟩ := Int.eq_ofNat_of_zero_le (show 0 ≤ n by omega)
  have e : ((k : Int) / 10) = ((k / 10 : Nat) : Int) := by omega
  rw [Go.Lib.itoa_nonneg, e, Go.Lib.itoa_nonneg, decDigits, dif_neg (by omega)]
  congr 3
theorem itoa_len {n : Int} (h : 0 ≤ n ∧ n ≤ 999) : (itoa n).length ≤ 3 := by
  by_cases h1 : n < 10
  · rw [itoa_small ⟨h.1, h1⟩]; simp
  · rw [itoa_big (by omega), List.length_append]
    by_cases h2 : n / 10 < 10
    · rw [itoa_small (by omega)]; simp
    · rw [itoa_big (by omega), List.length_append, itoa_small (by omega)]; simp

section
variable {cx : Cx} {h : Heap} {dst : Option Nat} {ty : TypeId} {pos : String} {af : Array Edge} {gd : Option (Nat × Bool)}
end
end Go.Proofs.YtffmlijngfhhaaaGreatDoor
