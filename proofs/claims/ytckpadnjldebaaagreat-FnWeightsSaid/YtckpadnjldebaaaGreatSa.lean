/- Bits as operations of the logic; sets of states as bits and as rising lists. No condition. -/
import Derived.Test.YtckpadnjldebaaaGreatPa
import Derived.Test.YtckpadnjldebaaaGreatMa
namespace Go.Proofs.YtckpadnjldebaaaGreat
open Go
attribute [local irreducible] awp awpL awpQL awpQ awpM pWalk Qt AC thenQ blockQ loopQ OpTo
set_option linter.unusedVariables false
set_option linter.unusedSimpArgs false
set_option maxHeartbeats 2000000
attribute [local irreducible] HC
open Go.RowKit (Below)
def bor (a b : Int) : Int := ((a.toNat ||| b.toNat : Nat) : Int)
def band (a b : Int) : Int := ((a.toNat &&& b.toNat : Nat) : Int)
def bshr (a b : Int) : Int := ((a.toNat >>> b.toNat : Nat) : Int)
def two (b : Int) : Int := ((2 ^ b.toNat : Nat) : Int)
theorem u64_wrap {n : Nat} (h : n < 18446744073709551616) : IntKind.u64.wrap (n : Int) = n := wrap_in (by simp [IntKind.min, IntKind.signed]) (by simp [IntKind.max, IntKind.signed, IntKind.bits]; omega)
section
variable {cx : Cx} {h : Heap} {s : Nat -> SV} {dst : Option Nat} {ty : Nat} {pos : String} {af : Array Edge} {gd : Option (Nat × Bool)}
attribute [local semireducible] Qt in
theorem qb_or {t t' : Nat} {x y : Operand} {a b : Int} (hx : opv s x = .d (.int .u64 a)) (hy : opv s y = .d (.int .u64 b)) (ha : 0 <= a /\ a < 18446744073709551616) (hb : 0 <= b /\ b < 18446744073709551616) :
    Qt cx h ⟨dst, .binOp .or t x y t', ty, pos, af, gd⟩ s (.d (.int .u64 (bor a b))) :=
  qt_of fun r hr σ c w hv _ _ => by
    have h1 := hv x
    have h2 := hv y
    rw [hr x (by simp [Op.operands]), hx] at h1
    rw [hr y (by simp [Op.operands]), hy] at h2
    have h1' := RepD.int_inv h1
    have h2' := RepD.int_inv h2
    have e : (BitVec.ofInt IntKind.u64.bits a ||| BitVec.ofInt IntKind.u64.bits b).toNat = a.toNat ||| b.toNat := by
      show (BitVec.ofInt 64 a ||| BitVec.ofInt 64 b).toNat = _
      rw [BitVec.toNat_or, BitVec.toNat_ofInt, BitVec.toNat_ofInt]
      have q1 : (a % ((2 ^ 64 : Nat) : Int)).toNat = a.toNat := by rw [Int.emod_eq_of_lt ha.1 (by have := ha.2; simpa using this)]
      have q2 : (b % ((2 ^ 64 : Nat) : Int)).toNat = b.toNat := by rw [Int.emod_eq_of_lt hb.1 (by have := hb.2; simpa using this)]
      rw [q1, q2]
    have hlt : a.toNat ||| b.toNat < 18446744073709551616 := Nat.or_lt_two_pow (n := 64) (by omega) (by omega)
    refine ⟨.int .u64 (bor a b), w, ?_, Below.refl _ _, RepD.int _ _⟩
    have e2 : (Op.intBits .or .u64 a b).run cx.P w = .ok (.int .u64 (bor a b)) w := by
      simp only [Op.intBits, Sem.run_pure]
      rw [e, u64_wrap hlt]
      rfl
    simp [execOp, h1', h2', eqGuard, binOp, e2]
attribute [local semireducible] Qt in
theorem qb_and {t t' : Nat} {x y : Operand} {a b : Int} (hx : opv s x = .d (.int .u64 a)) (hy : opv s y = .d (.int .u64 b)) (ha : 0 <= a /\ a < 18446744073709551616) (hb : 0 <= b /\ b < 18446744073709551616) :
    Qt cx h ⟨dst, .binOp .and t x y t', ty, pos, af, gd⟩ s (.d (.int .u64 (band a b))) :=
  qt_of fun r hr σ c w hv _ _ => by
    have h1 := hv x
    have h2 := hv y
    rw [hr x (by simp [Op.operands]), hx] at h1
    rw [hr y (by simp [Op.operands]), hy] at h2
    have h1' := RepD.int_inv h1
    have h2' := RepD.int_inv h2
    have e : (BitVec.ofInt IntKind.u64.bits a &&& BitVec.ofInt IntKind.u64.bits b).toNat = a.toNat &&& b.toNat := by
      show (BitVec.ofInt 64 a &&& BitVec.ofInt 64 b).toNat = _
      rw [BitVec.toNat_and, BitVec.toNat_ofInt, BitVec.toNat_ofInt]
      have q1 : (a % ((2 ^ 64 : Nat) : Int)).toNat = a.toNat := by rw [Int.emod_eq_of_lt ha.1 (by have := ha.2; simpa using this)]
      have q2 : (b % ((2 ^ 64 : Nat) : Int)).toNat = b.toNat := by rw [Int.emod_eq_of_lt hb.1 (by have := hb.2; simpa using this)]
      rw [q1, q2]
    have hlt : a.toNat &&& b.toNat < 18446744073709551616 := Nat.lt_of_le_of_lt Nat.and_le_left (by omega)
    refine ⟨.int .u64 (band a b), w, ?_, Below.refl _ _, RepD.int _ _⟩
    have e2 : (Op.intBits .and .u64 a b).run cx.P w = .ok (.int .u64 (band a b)) w := by
      simp only [Op.intBits, Sem.run_pure]
      rw [e, u64_wrap hlt]
      rfl
    simp [execOp, h1', h2', eqGuard, binOp, e2]
attribute [local semireducible] Qt in
theorem qb_shr {t t' : Nat} {x y : Operand} {a b : Int} {k : IntKind} (hx : opv s x = .d (.int .u64 a)) (hy : opv s y = .d (.int k b)) (ha : 0 <= a /\ a < 18446744073709551616) (hb : 0 <= b) :
    Qt cx h ⟨dst, .binOp .shr t x y t', ty, pos, af, gd⟩ s (.d (.int .u64 (bshr a b))) :=
  qt_of fun r hr σ c w hv _ _ => by
    have h1 := hv x
    have h2 := hv y
    rw [hr x (by simp [Op.operands]), hx] at h1
    rw [hr y (by simp [Op.operands]), hy] at h2
    have h1' := RepD.int_inv h1
    have h2' := RepD.int_inv h2
    refine ⟨.int .u64 (bshr a b), w, ?_, Below.refl _ _, RepD.int _ _⟩
    have e2 : (Op.shift .shr .u64 a k b).run cx.P w = .ok (.int .u64 (bshr a b)) w := by
      unfold Op.shift
      rw [if_neg (by omega)]
      simp only [IntKind.bits, Sem.run_pure]
      congr 2
      unfold bshr
      obtain ⟨n, rfl⟩ := Int.eq_ofNat_of_zero_le ha.1
      obtain ⟨m, rfl⟩ := Int.eq_ofNat_of_zero_le hb
      simp only [Int.toNat_natCast]
      rw [Nat.shiftRight_eq_div_pow]
      have key : n / 2 ^ min m 64 = n / 2 ^ m := by
        rcases Nat.le_total m 64 with h | h
        . rw [Nat.min_eq_left h]
        . rw [Nat.min_eq_right h]
          have h3 : n < 2 ^ m := Nat.lt_of_lt_of_le (by omega : n < 2 ^ 64) (Nat.pow_le_pow_right (by omega) h)
          rw [Nat.div_eq_of_lt (by omega : n < 2 ^ 64), Nat.div_eq_of_lt h3]
      rw [<- key, show ((2 : Int) ^ min m 64) = ((2 ^ min m 64 : Nat) : Int) by push_cast; rfl, Int.fdiv_eq_ediv_of_nonneg _ (Int.natCast_nonneg _)]
      exact (Int.natCast_ediv _ _).symm
    simp [execOp, h1', h2', eqGuard, binOp, e2]
attribute [local semireducible] Qt in
theorem qb_one {t t' : Nat} {y : Operand} {b : Int} {k : IntKind} (hy : opv s y = .d (.int k b)) (hb : 0 <= b /\ b < 64) :
    Qt cx h ⟨dst, .binOp .shl t (.const (.int .u64 1)) y t', ty, pos, af, gd⟩ s (.d (.int .u64 (two b))) :=
  qt_of fun r hr σ c w hv _ _ => by
    have h2 := hv y
    rw [hr y (by simp [Op.operands]), hy] at h2
    have h2' := RepD.int_inv h2
    refine ⟨.int .u64 (two b), w, ?_, Below.refl _ _, RepD.int _ _⟩
    have e2 : (Op.shift .shl .u64 1 k b).run cx.P w = .ok (.int .u64 (two b)) w := by
      unfold Op.shift
      rw [if_neg (by omega)]
      simp only [IntKind.bits, Sem.run_pure]
      congr 2
      unfold two
      obtain ⟨m, rfl⟩ := Int.eq_ofNat_of_zero_le hb.1
      simp only [Int.toNat_natCast]
      have hm : m < 64 := by omega
      rw [Nat.min_eq_left (by omega)]
      have hlt : 2 ^ m < 18446744073709551616 := Nat.pow_lt_pow_right (by omega : 1 < 2) hm
      have := u64_wrap hlt
      rw [<- this]
      push_cast
      rw [Int.one_mul]
    have h1' : c.eval (.const (.int .u64 1)) = .int .u64 1 := rfl
    have e3 : (binOp .shl t (.int .u64 1) (.int k b)).run cx.P w = .ok (.int .u64 (two b)) w := e2
    have e4 : (eqGuard .shl t (.const (.int .u64 1)) y (.int .u64 1) (.int k b)).run cx.P w = .ok () w := by simp [eqGuard]
    simp only [execOp, h1', h2', Sem.run_bind, e3, e4, Result.andThen_ok, Sem.run_pure]
end
end Go.Proofs.YtckpadnjldebaaaGreat
