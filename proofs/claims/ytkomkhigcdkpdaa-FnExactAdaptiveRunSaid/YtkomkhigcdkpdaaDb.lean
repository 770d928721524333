/- Bits of int, one less of a flock, entries of maps that are known. No condition. -/
import Derived.Test.YtkomkhigcdkpdaaSg
namespace Go.Proofs.Ytkomkhigcdkpdaa
open Go
attribute [local irreducible] awp awpL awpQL awpQ awpM pWalk Qt AC thenQ blockQ loopQ OpTo
set_option linter.unusedVariables false
set_option linter.unusedSimpArgs false
set_option maxHeartbeats 2000000
attribute [local irreducible] HC
open Go.RowKit (Below)

theorem i64_wrap {n : Nat} (h : n < 9223372036854775808) : IntKind.i64.wrap (n : Int) = n := wrap_in (by simp [IntKind.min, IntKind.signed, IntKind.bits] <;> omega) (by simp [IntKind.max, IntKind.signed, IntKind.bits]; omega)

section
variable {cx : Cx} {h : Heap} {s : Nat → SV} {dst : Option Nat} {ty : Nat} {pos : String} {af : Array Edge} {gd : Option (Nat × Bool)}

attribute [local semireducible] Qt in
theorem qi_or {t t' : Nat} {x y : Operand} {a b : Int} (hx : opv s x = .d (.int .i64 a)) (hy : opv s y = .d (.int .i64 b)) (ha : 0 ≤ a ∧ a < 9223372036854775808) (hb : 0 ≤ b ∧ b < 9223372036854775808) :
    Qt cx h ⟨dst, .binOp .or t x y t', ty, pos, af, gd⟩ s (.d (.int .i64 (bor a b))) :=
  qt_of fun r hr σ c w hv _ _ => by
    have h1 := hv x
    have h2 := hv y
    rw [hr x (by simp [Op.operands]), hx] at h1
    rw [hr y (by simp [Op.operands]), hy] at h2
    have h1' := RepD.int_inv h1
    have h2' := RepD.int_inv h2
    have e : (BitVec.ofInt IntKind.i64.bits a ||| BitVec.ofInt IntKind.i64.bits b).toNat = a.toNat ||| b.toNat := by
      show (BitVec.ofInt 64 a ||| BitVec.ofInt 64 b).toNat = _
      rw [BitVec.toNat_or, BitVec.toNat_ofInt, BitVec.toNat_ofInt]
      have q1 : (a % ((2 ^ 64 : Nat) : Int)).toNat = a.toNat := by rw [Int.emod_eq_of_lt ha.1 (by have := ha.2; have e : ((2 ^ 64 : Nat) : Int) = 18446744073709551616 := (by decide); omega)]
      have q2 : (b % ((2 ^ 64 : Nat) : Int)).toNat = b.toNat := by rw [Int.emod_eq_of_lt hb.1 (by have := hb.2; have e : ((2 ^ 64 : Nat) : Int) = 18446744073709551616 := (by decide); omega)]
      rw [q1, q2]
    have hlt : a.toNat ||| b.toNat < 9223372036854775808 := Nat.or_lt_two_pow (n := 63) (by omega) (by omega)
    refine ⟨.int .i64 (bor a b), w, ?_, Below.refl _ _, RepD.int _ _⟩
    have e2 : (Op.intBits .or .i64 a b).run cx.P w = .ok (.int .i64 (bor a b)) w := by
      simp only [Op.intBits, Sem.run_pure]
      rw [e, i64_wrap hlt]
      rfl
    simp [execOp, h1', h2', eqGuard, binOp, e2]

attribute [local semireducible] Qt in
theorem qi_and {t t' : Nat} {x y : Operand} {a b : Int} (hx : opv s x = .d (.int .i64 a)) (hy : opv s y = .d (.int .i64 b)) (ha : 0 ≤ a ∧ a < 9223372036854775808) (hb : 0 ≤ b ∧ b < 9223372036854775808) :
    Qt cx h ⟨dst, .binOp .and t x y t', ty, pos, af, gd⟩ s (.d (.int .i64 (band a b))) :=
  qt_of fun r hr σ c w hv _ _ => by
    have h1 := hv x
    have h2 := hv y
    rw [hr x (by simp [Op.operands]), hx] at h1
    rw [hr y (by simp [Op.operands]), hy] at h2
    have h1' := RepD.int_inv h1
    have h2' := RepD.int_inv h2
    have e : (BitVec.ofInt IntKind.i64.bits a &&& BitVec.ofInt IntKind.i64.bits b).toNat = a.toNat &&& b.toNat := by
      show (BitVec.ofInt 64 a &&& BitVec.ofInt 64 b).toNat = _
      rw [BitVec.toNat_and, BitVec.toNat_ofInt, BitVec.toNat_ofInt]
      have q1 : (a % ((2 ^ 64 : Nat) : Int)).toNat = a.toNat := by rw [Int.emod_eq_of_lt ha.1 (by have := ha.2; have e : ((2 ^ 64 : Nat) : Int) = 18446744073709551616 := (by decide); omega)]
      have q2 : (b % ((2 ^ 64 : Nat) : Int)).toNat = b.toNat := by rw [Int.emod_eq_of_lt hb.1 (by have := hb.2; have e : ((2 ^ 64 : Nat) : Int) = 18446744073709551616 := (by decide); omega)]
      rw [q1, q2]
    have hlt : a.toNat &&& b.toNat < 9223372036854775808 := Nat.lt_of_le_of_lt Nat.and_le_left (by omega)
    refine ⟨.int .i64 (band a b), w, ?_, Below.refl _ _, RepD.int _ _⟩
    have e2 : (Op.intBits .and .i64 a b).run cx.P w = .ok (.int .i64 (band a b)) w := by
      simp only [Op.intBits, Sem.run_pure]
      rw [e, i64_wrap hlt]
      rfl
    simp [execOp, h1', h2', eqGuard, binOp, e2]

attribute [local semireducible] Qt in
theorem qi_shr {t t' : Nat} {x y : Operand} {a b : Int} {k : IntKind} (hx : opv s x = .d (.int .i64 a)) (hy : opv s y = .d (.int k b)) (ha : 0 ≤ a ∧ a < 9223372036854775808) (hb : 0 ≤ b) :
    Qt cx h ⟨dst, .binOp .shr t x y t', ty, pos, af, gd⟩ s (.d (.int .i64 (bshr a b))) :=
  qt_of fun r hr σ c w hv _ _ => by
    have h1 := hv x
    have h2 := hv y
    rw [hr x (by simp [Op.operands]), hx] at h1
    rw [hr y (by simp [Op.operands]), hy] at h2
    have h1' := RepD.int_inv h1
    have h2' := RepD.int_inv h2
    refine ⟨.int .i64 (bshr a b), w, ?_, Below.refl _ _, RepD.int _ _⟩
    have e2 : (Op.shift .shr .i64 a k b).run cx.P w = .ok (.int .i64 (bshr a b)) w := by
      unfold Op.shift
      rw [if_neg (by omega)]
      simp only [IntKind.bits, Sem.run_pure]
      congr 2
      unfold bshr
      obtain ⟨n, rfl⟩ := Int.eq_ofNat_of_zero_le ha.1
      obtain ⟨m, rfl⟩ := Int.eq_ofNat_of_zero_le hb
      simp only [Int.toNat_natCast]
      rw [Nat.shiftRight_eq_div_pow]
      have key : n / 2 ^ min m 64 = n / 2 ^ m := by
        rcases Nat.le_total m 64 with h | h
        · rw [Nat.min_eq_left h]
        · rw [Nat.min_eq_right h]
          have h3 : n < 2 ^ m := Nat.lt_of_lt_of_le (by omega : n < 2 ^ 64) (Nat.pow_le_pow_right (by omega) h)
          rw [Nat.div_eq_of_lt (by omega : n < 2 ^ 64), Nat.div_eq_of_lt h3]
      rw [← key, show ((2 : Int) ^ min m 64) = ((2 ^ min m 64 : Nat) : Int) by push_cast; rfl, Int.fdiv_eq_ediv_of_nonneg _ (Int.natCast_nonneg _)]
      exact (Int.natCast_ediv _ _).symm
    simp [execOp, h1', h2', eqGuard, binOp, e2]

attribute [local semireducible] Qt in
theorem qi_one {t t' : Nat} {y : Operand} {b : Int} {k : IntKind} (hy : opv s y = .d (.int k b)) (hb : 0 ≤ b ∧ b < 63) :
    Qt cx h ⟨dst, .binOp .shl t (.const (.int .i64 1)) y t', ty, pos, af, gd⟩ s (.d (.int .i64 (two b))) :=
  qt_of fun r hr σ c w hv _ _ => by
    have h2 := hv y
    rw [hr y (by simp [Op.operands]), hy] at h2
    have h2' := RepD.int_inv h2
    refine ⟨.int .i64 (two b), w, ?_, Below.refl _ _, RepD.int _ _⟩
    have e2 : (Op.shift .shl .i64 1 k b).run cx.P w = .ok (.int .i64 (two b)) w := by
      unfold Op.shift
      rw [if_neg (by omega)]
      simp only [IntKind.bits, Sem.run_pure]
      congr 2
      unfold two
      obtain ⟨m, rfl⟩ := Int.eq_ofNat_of_zero_le hb.1
      simp only [Int.toNat_natCast]
      have hm : m < 63 := by omega
      rw [Nat.min_eq_left (by omega)]
      have hlt : 2 ^ m < 9223372036854775808 := Nat.pow_lt_pow_right (by omega : 1 < 2) hm
      have := i64_wrap hlt
      rw [← this]
      push_cast
      rw [Int.one_mul]
    have h1' : c.eval (.const (.int .i64 1)) = .int .i64 1 := rfl
    have e3 : (binOp .shl t (.int .i64 1) (.int k b)).run cx.P w = .ok (.int .i64 (two b)) w := e2
    have e4 : (eqGuard .shl t (.const (.int .i64 1)) y (.int .i64 1) (.int k b)).run cx.P w = .ok () w := by simp [eqGuard]
    simp only [execOp, h1', h2', Sem.run_bind, e3, e4, Result.andThen_ok, Sem.run_pure]

attribute [local semireducible] Qt in
/-- 0 and anything are 0. -/
theorem qi_and0 {t t' : Nat} {x y : Operand} {b : Int} (hx : opv s x = .d (.int .i64 0)) (hy : opv s y = .d (.int .i64 b)) :
    Qt cx h ⟨dst, .binOp .and t x y t', ty, pos, af, gd⟩ s (.d (.int .i64 0)) :=
  qt_of fun r hr σ c w hv _ _ => by
    have h1 := hv x
    have h2 := hv y
    rw [hr x (by simp [Op.operands]), hx] at h1
    rw [hr y (by simp [Op.operands]), hy] at h2
    have h1' := RepD.int_inv h1
    have h2' := RepD.int_inv h2
    have e : (BitVec.ofInt IntKind.i64.bits 0 &&& BitVec.ofInt IntKind.i64.bits b).toNat = 0 := by
      show (BitVec.ofInt 64 0 &&& BitVec.ofInt 64 b).toNat = _
      simp
    refine ⟨.int .i64 0, w, ?_, Below.refl _ _, RepD.int _ _⟩
    have e2 : (Op.intBits .and .i64 0 b).run cx.P w = .ok (.int .i64 0) w := by
      simp only [Op.intBits, Sem.run_pure]
      rw [e]
      have := i64_wrap (n := 0) (by omega)
      simp only [Int.ofNat_zero, Int.natCast_zero] at this ⊢
      first | rw [this] | (show Result.ok (Value.int .i64 (IntKind.i64.wrap 0)) w = _; rfl)
    simp [execOp, h1', h2', eqGuard, binOp, e2]

theorem qi_conv {S T : Nat} {x : Operand} {ts tt : TR} {k' : IntKind} {n : Int} (ht : tget cx.T T = some tt) (hk : tt.kind = some .u64) (hs : tget cx.T S = some ts) (hx : opv s x = .d (.int k' n)) (hn : 0 ≤ n ∧ n ≤ 9223372036854775807) :
    Qt cx h ⟨dst, .convert S T x, ty, pos, af, gd⟩ s (.d (.int .u64 n)) := qt_ev (by
  simp only [ev, ht, hk, hs, hx]
  rw [wrap_in (by simp [IntKind.min, IntKind.signed]; omega) (by simp [IntKind.max, IntKind.signed, IntKind.bits]; omega)])
/-- A difference that may be turned round. -/
theorem qb_subU {t t' : Nat} {x y : Operand} {a b : Int} (hx : opv s x = .d (.int .u64 a)) (hy : opv s y = .d (.int .u64 b)) :
    Qt cx h ⟨dst, .binOp .sub t x y t', ty, pos, af, gd⟩ s (.d (.int .u64 (IntKind.u64.wrap (a - b)))) := qt_ev (by simp only [ev, hx, hy, evBin, sameK])
end

/-- What a map holds at a key. -/
structure MGet (n : Int) (kvs : List (D × D)) (r : Option D) : Prop where
  h : mget n kvs = r
theorem wa_got {cx : Cx} {h : Heap} {dst : Option Nat} {ty : Nat} {pos : String} {af : Array Edge} {gd : Option (Nat × Bool)} {T : Nat} {x i : Operand} {tr tk te : TR} {kt et : Nat} {f : Nat → SV} {kvs : List (D × D)} {kd : IntKind} {n : Int} {okc : Bool} {r : Option D} (hx : mapOf h (opv f x) = some kvs) (hi : opv f i = .d (.int kd n)) (ht : tget cx.T T = some tr) (hm : tr.mp = some (kt, et))
    (htk : tget cx.T kt = some tk) (hkk : tk.kind = some kd) (hte : tget cx.T et = some te) (ha : te.agg = false) (hz : Nat.beq te.zero.length 1 = true) (hk : keysI kd kvs = true) (hr : MGet n kvs r) :
    Qt cx h ⟨dst, .lookup T x i okc, ty, pos, af, gd⟩ f (.d (mans te okc r)) := by
  have := wa_lookup (cx := cx) (h := h) (dst := dst) (ty := ty) (pos := pos) (af := af) (gd := gd) (okc := okc) hx hi ht hm htk hkk hte ha hz hk
  rwa [hr.h] at this

end Go.Proofs.Ytkomkhigcdkpdaa
