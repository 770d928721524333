/- Contracts of how the laws' package measures, copies and compares lit automata; the law of ValidLit. No condition. -/
import Derived.Test.YtiiiipddgfnbmaaWd
namespace Go.Proofs.Ytiiiipddgfnbmaa
open Go
attribute [local irreducible] awp awpL awpQL awpQ awpM pWalk Qt AC thenQ blockQ loopQ OpTo
set_option linter.unusedVariables false
set_option linter.unusedSimpArgs false
set_option maxHeartbeats 2000000

theorem szR_sign {nx : List (List Int)} {left : Int} (h : 0 ≤ left) : -1 ≤ szR nx left := by
  have : ∀ (l : List (List Int)) (left : Int), 0 ≤ left → -1 ≤ szLs left l := by
    intro l
    induction l with
    | nil => intro left h; simp [szLs]; omega
    | cons x l ih =>
      intro left h
      unfold szLs
      split
      · omega
      · exact ih _ (by omega)
  unfold szR
  split
  · omega
  · exact this _ _ (by omega)

def szA (nx : List (List Int)) (left : Int) : Int := if szR nx left < 0 then -1 else szR nx left

theorem szA_ok {nx : List (List Int)} {left : Int} (h : 0 ≤ left) : szA nx left ≤ left ∧ -1 ≤ szA nx left ∧ (0 ≤ szA nx left → (nx.length : Int) ≤ left ∧ ∀ ns ∈ nx, (ns.length : Int) ≤ left) := by
  have := szR_ok (nss := nx) h
  have := szR_sign (nx := nx) h
  unfold szA
  split
  · omega
  · refine ⟨by omega, by omega, fun hh => (szR_ok h).2 hh⟩

def szLitF (nx : List (List Int)) (lp : List Int) (left : Int) : Int := if szA nx left < 0 then -1 else if szL lp.length (szA nx left) < 0 then -1 else szL lp.length (szA nx left)

theorem szLitF_ok {nx : List (List Int)} {lp : List Int} (h : ¬ szLitF nx lp 1048576 < 0) : nx.length ≤ 1048576 ∧ (∀ ns ∈ nx, ns.length ≤ 1048576) ∧ lp.length ≤ 1048576 := by
  have hok := szA_ok (nx := nx) (left := 1048576) (by omega)
  unfold szLitF at h
  split at h
  · omega
  · split at h
    · omega
    · rename_i g1 g2
      have hl := (szL_le (n := lp.length) (left := szA nx 1048576) (by omega)).2 (by omega)
      obtain ⟨k1, k2, k3⟩ := hok
      obtain ⟨k4, k5⟩ := k3 (by omega)
      refine ⟨by omega, fun ns hn => ?_, by omega⟩
      have := k5 ns hn
      omega

end Go.Proofs.Ytiiiipddgfnbmaa
