/- What is told of a line: in the reference and in the program. No condition. -/
import Derived.Test.YtffmlijngfhhaaaGreatDoorOi
namespace Go.Proofs.YtffmlijngfhhaaaGreatDoor
open Go
attribute [local irreducible] awp awpL awpQL awpQ awpM pWalk Qt AC thenQ blockQ loopQ OpTo
set_option linter.unusedVariables false
set_option linter.unusedSimpArgs false
set_option maxHeartbeats 2000000
attribute [local irreducible] HC

theorem bits_ext {a b : List Int} (h : ∀ x, x ∈ a ↔ x ∈ b) : bitsL 0 a = bitsL 0 b := Nat.eq_of_testBit_eq fun i => by
  rw [testBit_bitsL, testBit_bitsL]
  congr 1
  rw [Bool.eq_iff_iff, List.any_eq_true, List.any_eq_true]
  exact ⟨fun ⟨x, hx, e⟩ => ⟨x, (h x).1 hx, e⟩, fun ⟨x, hx, e⟩ => ⟨x, (h x).2 hx, e⟩⟩
theorem mem_foldl_ins : ∀ (L out : List Int) (y : Int), y ∈ L.foldl insL out ↔ y ∈ out ∨ y ∈ L
  | [], out, y => by simp
  | x :: L, out, y => by
    rw [List.foldl_cons, mem_foldl_ins L, mem_insL, List.mem_cons]
    constructor
    · rintro ((h | h) | h)
      · exact .inr (.inl h)
      · exact .inl h
      · exact .inr (.inr h)
    · rintro (h | h | h)
      · exact .inl (.inr h)
      · exact .inl (.inl h)
      · exact .inr h
theorem ris_foldl_ins : ∀ (L out : List Int), out.Pairwise (· < ·) → (L.foldl insL out).Pairwise (· < ·)
  | [], _, h => h
  | x :: L, out, h => ris_foldl_ins L _ (insL_ris h)
theorem bits_or (L out : List Int) : bitsL 0 (L.foldl insL out) = bitsL 0 out ||| bitsL 0 L := Nat.eq_of_testBit_eq fun i => by
  rw [Nat.testBit_or, testBit_bitsL, testBit_bitsL, testBit_bitsL]
  simp only [Nat.zero_testBit, Bool.false_or]
  rw [Bool.eq_iff_iff, Bool.or_eq_true, List.any_eq_true, List.any_eq_true, List.any_eq_true]
  constructor
  · rintro ⟨x, hx, e⟩
    rcases (mem_foldl_ins L out x).1 hx with h | h
    · exact .inl ⟨x, h, e⟩
    · exact .inr ⟨x, h, e⟩
  · rintro (⟨x, h, e⟩ | ⟨x, h, e⟩)
    · exact ⟨x, (mem_foldl_ins L out x).2 (.inl h), e⟩
    · exact ⟨x, (mem_foldl_ins L out x).2 (.inr h), e⟩

/-- The states now, and those that are told, behind so many letters. -/
def tN (nx : List (List Int)) : List Int → List Int → List Int → List Int × List Int
  | now, out, [] => (now, out)
  | now, out, x :: w => tN nx (imgL nx now [x]) ((imgL nx now [x]).foldl insL out) w
theorem tN_toldF {nx : List (List Int)} : ∀ (w now out : List Int), toldF nx now out w = (tN nx now out w).2
  | [], _, _ => rfl
  | x :: w, now, out => tN_toldF w _ _
theorem tN_snoc {nx : List (List Int)} {x : Int} : ∀ (w now out : List Int), tN nx now out (w ++ [x]) = (imgL nx (tN nx now out w).1 [x], (imgL nx (tN nx now out w).1 [x]).foldl insL (tN nx now out w).2)
  | [], _, _ => rfl
  | y :: w, now, out => by simp only [List.cons_append, tN]; exact tN_snoc w _ _
theorem tN_ok {s : Int} {nx : List (List Int)} (hx : Tbl s s nx) : ∀ (w now out : List Int), (∀ l ∈ w, 0 ≤ l ∧ l < nx.length) → (∀ q ∈ now, 0 ≤ q ∧ q < s) → now.Pairwise (· < ·) → (∀ q ∈ out, 0 ≤ q ∧ q < s) → out.Pairwise (· < ·) →
    (∀ q ∈ (tN nx now out w).1, 0 ≤ q ∧ q < s) ∧ (tN nx now out w).1.Pairwise (· < ·) ∧ (∀ q ∈ (tN nx now out w).2, 0 ≤ q ∧ q < s) ∧ (tN nx now out w).2.Pairwise (· < ·)
  | [], _, _, _, h1, h2, h3, h4 => ⟨h1, h2, h3, h4⟩
  | x :: w, now, out, hw, h1, h2, h3, h4 => by
    obtain ⟨i1, i2⟩ := imgL_spec nx now [x]
    have hm : ∀ q ∈ imgL nx now [x], 0 ≤ q ∧ q < s := fun q hq => by
      obtain ⟨q0, hq0, rfl⟩ := (i2 q).1 hq
      exact runS_range hx [x] (h1 q0 hq0) fun l hl => by simp at hl; subst hl; exact hw _ (List.mem_cons_self ..)
    exact tN_ok hx w _ _ (fun l hl => hw l (List.mem_cons_of_mem _ hl)) hm i1 (fun q hq => by
      rcases (mem_foldl_ins _ _ q).1 hq with h | h
      · exact h3 q h
      · exact hm q h) (ris_foldl_ins _ _ h4)

theorem ris_le10 {s : Int} {l : List Int} (hs : s ≤ 10) (h1 : ∀ q ∈ l, 0 ≤ q ∧ q < s) (h2 : l.Pairwise (· < ·)) : l.length ≤ 10 := by
  have := incr_len h2 0 fun q hq => by have := h1 q hq; omega
  omega

end Go.Proofs.YtffmlijngfhhaaaGreatDoor
