/- Decimals as texts and back, in plain words. No condition. -/
import Derived.Lib.ItoaMem
import Derived.Lib.ParseIntBCases
import Derived.Lib.ParseIntBTie
namespace Go.Proofs.YtffmlijngfhhaaaGreatDoor
open Go
open Go.Lib (itoa decDigits parseIntB parseUintB parseUintM)
set_option linter.unusedVariables false

theorem itoaS {n : Int} (h : 0 ≤ n ∧ n < 10) : itoa n = [UInt8.ofNat (48 + n).toNat] := by
  obtain ⟨k, rfl⟩ := Int.eq_ofNat_of_zero_le h.1
  rw [Go.Lib.itoa_nonneg, decDigits, dif_pos (by omega)]
  congr 2
theorem itoaB {n : Int} (h : 10 ≤ n) : itoa n = itoa (n / 10) ++ [UInt8.ofNat (48 + n % 10).toNat] := by
  obtain ⟨k, rfl⟩ := Int.eq_ofNat_of_zero_le (show 0 ≤ n by omega)
  have e : ((k : Int) / 10) = ((k / 10 : Nat) : Int) := by omega
  rw [Go.Lib.itoa_nonneg, e, Go.Lib.itoa_nonneg, decDigits, dif_neg (by omega)]
  congr 3

def isDig (c : UInt8) : Bool := decide (48 ≤ (c.toNat : Int)) && decide ((c.toNat : Int) ≤ 57)
def digF (n : Int) (c : UInt8) : Int := n * 10 + ((c.toNat : Int) - 48)
def digV (l : List UInt8) : Int := l.foldl digF 0
theorem isDig_iff {c : UInt8} : isDig c = true ↔ 48 ≤ c.toNat ∧ c.toNat ≤ 57 := by
  unfold isDig
  rw [Bool.and_eq_true, decide_eq_true_eq, decide_eq_true_eq]
  omega
theorem digV_snoc (l : List UInt8) (c : UInt8) : digV (l ++ [c]) = digV l * 10 + ((c.toNat : Int) - 48) := by
  unfold digV
  rw [List.foldl_append]
  rfl
theorem toNat_dig {n : Int} (h : 0 ≤ n ∧ n < 10) : (UInt8.ofNat (48 + n).toNat).toNat = 48 + n.toNat := by
  rw [UInt8.toNat_ofNat']
  have : (48 + n).toNat = 48 + n.toNat := by omega
  rw [this]
  omega
theorem isDig_of {n : Int} (h : 0 ≤ n ∧ n < 10) : isDig (UInt8.ofNat (48 + n).toNat) = true := isDig_iff.2 (by rw [toNat_dig h]; omega)
theorem itoa_facts (k : Nat) : ∀ n : Int, 0 ≤ n → n.toNat ≤ k → (itoa n).all isDig = true ∧ digV (itoa n) = n ∧ itoa n ≠ [] ∧ (1 ≤ n → (itoa n).head? ≠ some 48) := by
  induction k with
  | zero =>
    intro n h1 h2
    have : n = 0 := by omega
    subst this
    rw [itoaS (n := 0) (by omega)]
    exact ⟨by decide, by decide, by decide, by omega⟩
  | succ k ih =>
    intro n h1 h2
    by_cases hs : n < 10
    · rw [itoaS ⟨h1, hs⟩]
      refine ⟨by simp [isDig_of ⟨h1, hs⟩], ?_, by simp, fun h e => ?_⟩
      · show digF 0 _ = n
        unfold digF
        rw [toNat_dig ⟨h1, hs⟩]; omega
      · simp only [List.head?_cons, Option.some.injEq] at e
        have := congrArg UInt8.toNat e
        rw [toNat_dig ⟨h1, hs⟩] at this
        have e48 : (48 : UInt8).toNat = 48 := rfl
        omega
    · obtain ⟨i1, i2, i3, i4⟩ := ih (n / 10) (by omega) (by omega)
      have hd : 0 ≤ n % 10 ∧ n % 10 < 10 := by omega
      rw [itoaB (by omega)]
      refine ⟨by rw [List.all_append, i1]; simp [isDig_of hd], ?_, by simp, fun h e => i4 (by omega) ?_⟩
      · rw [digV_snoc, i2, toNat_dig hd]; omega
      · obtain ⟨x, t, ht⟩ := List.exists_cons_of_ne_nil i3
        rw [ht] at e ⊢
        exact e
theorem itoa_len_le (k : Nat) : ∀ n : Int, 0 ≤ n → n < (10 : Int) ^ (k + 1) → (itoa n).length ≤ k + 1 := by
  induction k with
  | zero => intro n h1 h2; rw [itoaS ⟨h1, by simpa using h2⟩]; simp
  | succ k ih =>
    intro n h1 h2
    by_cases hs : n < 10
    · rw [itoaS ⟨h1, hs⟩]; simp
    · rw [itoaB (by omega), List.length_append]
      have := ih (n / 10) (by omega) (by
        have e : (10 : Int) ^ (k + 1 + 1) = 10 ^ (k + 1) * 10 := Int.pow_succ ..
        rw [e] at h2
        generalize (10 : Int) ^ (k + 1) = P at *
        omega)
      simp
      omega
theorem itoa_all {n : Int} (h : 0 ≤ n) : (itoa n).all isDig = true := (itoa_facts n.toNat n h (Nat.le_refl _)).1
/-! ### What strconv.ParseInt makes of a decimal -/
/-- The number beside whatever error. -/
def pint (l : List UInt8) : Int := match parseIntB 64 l with
  | .ok v => v
  | .range => Go.Lib.intSat 64 l
  | _ => 0
theorem parseUintM_dig (l : List UInt8) : ∀ (acc : Nat), l.all isDig = true → (acc + 1) * 10 ^ l.length ≤ 10 ^ 18 → parseUintM (2 ^ 64 - 1) acc l = .ok (l.foldl digF (acc : Int)).toNat := by
  induction l with
  | nil => intro acc _ _; simp [parseUintM]
  | cons c r ih =>
    intro acc h hb
    rw [List.all_cons, Bool.and_eq_true] at h
    have hc := isDig_iff.1 h.1
    have hp : 1 ≤ 10 ^ r.length := Nat.pow_pos (by decide)
    rw [List.length_cons, Nat.pow_succ] at hb
    have e18 : (10 : Nat) ^ 18 = 1000000000000000000 := by decide
    have h1 : (acc + 1) * 10 ≤ 10 ^ 18 := by
      have : (acc + 1) * 10 * 1 ≤ (acc + 1) * 10 * 10 ^ r.length := Nat.mul_le_mul_left _ hp
      have e : (acc + 1) * (10 ^ r.length * 10) = (acc + 1) * 10 * 10 ^ r.length := by rw [Nat.mul_comm (10 ^ r.length) 10, Nat.mul_assoc]
      omega
    unfold parseUintM
    have e64 : (2 : Nat) ^ 64 - 1 = 18446744073709551615 := by decide
    rw [if_pos hc, if_neg (by omega), if_neg (by omega)]
    have hb2 : (acc * 10 + (c.toNat - 48) + 1) * 10 ^ r.length ≤ 10 ^ 18 := by
      refine Nat.le_trans (Nat.mul_le_mul_right _ (show acc * 10 + (c.toNat - 48) + 1 ≤ (acc + 1) * 10 by omega)) ?_
      have e : (acc + 1) * (10 ^ r.length * 10) = (acc + 1) * 10 * 10 ^ r.length := by rw [Nat.mul_comm (10 ^ r.length) 10, Nat.mul_assoc]
      omega
    rw [ih _ h.2 hb2]
    congr 2
    rw [List.foldl_cons]
    congr 1
    unfold digF
    omega
theorem pint_itoa {n : Int} (h : 0 ≤ n) (h9 : n < 1000000000) : pint (itoa n) = n := by
  obtain ⟨h1, h2, h3, h4⟩ := itoa_facts n.toNat n h (Nat.le_refl _)
  have hl := itoa_len_le 8 n h (by simpa using h9)
  obtain ⟨c, r, hcr⟩ := List.exists_cons_of_ne_nil h3
  have hm := parseUintM_dig (itoa n) 0 h1 (by
    have : (10 : Nat) ^ (itoa n).length ≤ 10 ^ 18 := Nat.pow_le_pow_right (by decide) (by omega)
    omega)
  have e2 : (itoa n).foldl digF ((0 : Nat) : Int) = n := h2
  rw [e2] at hm
  have hc := isDig_iff.1 (by rw [hcr] at h1; simp at h1; exact h1.1 : isDig c = true)
  have hu : parseUintB 64 (itoa n) = .ok n.toNat := by
    unfold parseUintB
    rw [if_neg h3, hm]
  unfold pint
  rw [hcr] at hu ⊢
  have e64 : (2 : Nat) ^ (64 - 1) = 9223372036854775808 := by decide
  have : parseIntB 64 (c :: r) = .ok n := by
    unfold parseIntB
    simp only
    rw [if_neg (by omega), hu]
    simp only
    rw [if_neg (by omega), if_neg (by omega), if_neg (by omega)]
    congr 1
    omega
  rw [this]
end Go.Proofs.YtffmlijngfhhaaaGreatDoor
